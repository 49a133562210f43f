/- As many lists have a sum of at least t as have one of at most -t, and they are all there are; no condition. -/
import Derived.Test.YtonmdhaollhekaaQFnWaysx2
import Derived.Test.YtonmdhaollhekaaCom
import Derived.Test.YtonmdhaollhekaaWay
set_option linter.unusedVariables false
set_option linter.unusedSimpArgs false
namespace Go.Proofs.Ytonmdhaollhekaa.Pure
open Go.RowKit Go.Proofs.Ytonmdhaollhekaa.PFnWays Go.Proofs.YtonmdhaollhekaaW.PrintWords Go.Proofs.YtonmdhaollhekaaW.PrintLast Go.Proofs.Ytonmdhaollhekaa.Com Go.Proofs.Ytonmdhaollhekaa.Way

theorem big_eq (l : List Int) : laws_big.f l = some (decide ((l.length : Int) > 1048576)) := rfl

theorem at_ex (l : List Int) (i : Nat) (hi : i < 1000000) (hl : (l.length : Int) ≤ 1048576) (hw : ∀ x ∈ l, (Lit.int .u8 x).wf = true) : ∃ n : Nat, n < 256 ∧ laws_at.f l (i : Int) = some (n : Int) := by
  unfold laws_at.f
  by_cases h : i < l.length
  · have hb := wfb (hw _ (rd_mem h))
    refine ⟨(rd l (i : Int)).toNat, by omega, ?_⟩
    rw [if_pos (by omega), if_pos (by omega), w64 (by omega) (by omega), Int.toNat_of_nonneg hb.1]
  · refine ⟨(i * 7 + l.length) % 256, by omega, ?_⟩
    rw [if_neg (by omega), w64 (n := (i : Int) * 7) (by omega) (by omega), w64 (by omega) (by omega)]
    congr 1

theorem and64m (n : Int) (h0 : 0 ≤ n) (h1 : n < 18446744073709551616) : Go.bits .and .u64 n 4294967295 = n % 4294967296 := by
  have e1 : (BitVec.ofInt 64 4294967295).toNat = 2 ^ 32 - 1 := by decide
  have key : (BitVec.ofInt 64 n &&& BitVec.ofInt 64 4294967295).toNat = (n % ((2 ^ 64 : Nat) : Int)).toNat % 2 ^ 32 := by
    rw [BitVec.toNat_and, BitVec.toNat_ofInt, e1, Nat.and_two_pow_sub_one_eq_mod]
  show IntKind.u64.wrap ((BitVec.ofInt 64 n &&& BitVec.ofInt 64 4294967295).toNat : Nat) = n % 4294967296
  rw [key, IntKind.wrap_u64]
  omega
theorem mul_parts (x1 x0 y1 y0 : Int) : (x1 * 4294967296 + x0) * (y1 * 4294967296 + y0) = x1 * y1 * 18446744073709551616 + (x1 * y0 + x0 * y1) * 4294967296 + x0 * y0 := by grind
theorem Mul64_eq (a b : Int) (ha : 0 ≤ a) (ha' : a < 18446744073709551616) (hb : 0 ≤ b) (hb' : b < 18446744073709551616) : bits_Mul64.f a b = some (a * b / 18446744073709551616, a * b % 18446744073709551616) := by
  unfold bits_Mul64.f
  rw [and64m a ha ha', and64m b hb hb']
  obtain ⟨x0, hx0⟩ : ∃ x, a % 4294967296 = x := ⟨_, rfl⟩
  obtain ⟨x1, hx1⟩ : ∃ x, a / 4294967296 = x := ⟨_, rfl⟩
  obtain ⟨y0, hy0⟩ : ∃ x, b % 4294967296 = x := ⟨_, rfl⟩
  obtain ⟨y1, hy1⟩ : ∃ x, b / 4294967296 = x := ⟨_, rfl⟩
  rw [hx0, hx1, hy0, hy1]
  have ea : a = x1 * 4294967296 + x0 := by omega
  have eb : b = y1 * 4294967296 + y0 := by omega
  have b1 : 0 ≤ x0 ∧ x0 ≤ 4294967295 := by omega
  have b2 : 0 ≤ x1 ∧ x1 ≤ 4294967295 := by omega
  have b3 : 0 ≤ y0 ∧ y0 ≤ 4294967295 := by omega
  have b4 : 0 ≤ y1 ∧ y1 ≤ 4294967295 := by omega
  have bd : ∀ {p q : Int}, 0 ≤ p ∧ p ≤ 4294967295 → 0 ≤ q ∧ q ≤ 4294967295 → 0 ≤ p * q ∧ p * q ≤ 18446744065119617025 := fun {p q} hp hq => ⟨Int.mul_nonneg hp.1 hq.1, by have := Int.mul_le_mul hp.2 hq.2 hq.1 (by omega); omega⟩
  have p11 := bd b2 b4
  have p10 := bd b2 b3
  have p01 := bd b1 b4
  have p00 := bd b1 b3
  have em := mul_parts x1 x0 y1 y0
  rw [← ea, ← eb] at em
  rw [em]
  clear em ea eb hx0 hx1 hy0 hy1 bd
  generalize x1 * y1 = m11 at *
  generalize x1 * y0 = m10 at *
  generalize x0 * y1 = m01 at *
  generalize x0 * y0 = m00 at *
  rw [u64w (n := m00) (by omega) (by omega), u64w (n := m10) (by omega) (by omega), u64w (n := m01) (by omega) (by omega), u64w (n := m11) (by omega) (by omega)]
  obtain ⟨t, ht⟩ : ∃ t, m10 + m00 / 4294967296 = t := ⟨_, rfl⟩
  rw [ht, u64w (n := t) (by omega) (by omega), and64m t (by omega) (by omega)]
  obtain ⟨s, hs⟩ : ∃ s, t % 4294967296 + m01 = s := ⟨_, rfl⟩
  rw [hs, u64w (n := s) (by omega) (by omega)]
  rw [u64w (n := m11 + t / 4294967296) (by omega) (by omega), u64w (n := m11 + t / 4294967296 + s / 4294967296) (by omega) (by omega), IntKind.wrap_u64]
  congr 2
  · omega

theorem Div64_eq (lo y : Int) (hy : 0 < y) (hl : 0 ≤ lo) (hl' : lo < 18446744073709551616) : bits_Div64.f 0 lo y = some (lo / y, lo % y) := by
  unfold bits_Div64.f
  rw [if_pos rfl, if_neg (by omega), if_neg (by omega)]
  have h1 : Int.tdiv lo y = lo / y := Int.tdiv_eq_ediv_of_nonneg hl
  have h2 : Int.tmod lo y = lo % y := Int.tmod_eq_emod_of_nonneg hl
  have h3 : lo / y ≤ lo := Int.ediv_le_self _ hl
  have h4 : 0 ≤ lo / y := Int.ediv_nonneg hl (by omega)
  rw [h1, h2, u64w h4 (by omega)]
/-- What stands in the program's sum ahead of the k-th step. -/
def prt (n : Nat) (t : Int) (m : Nat) : Nat := sumTo (fun k => if t ≤ (n : Int) - 2 * (k : Int) then ch n k else 0) m
theorem prt_le {n : Nat} (h : n ≤ 60) (t : Int) {m : Nat} (hm : m ≤ n + 1) : prt n t m ≤ 1152921504606846976 := Nat.le_trans (part_le n (fun k => t ≤ (n : Int) - 2 * (k : Int)) h hm) (p60 h)
theorem wa2 (n k : Nat) (hn : n ≤ 60) (hk : k ≤ 60) : wrap64 ((n : Int) - wrap64 (2 * (k : Int))) = (n : Int) - 2 * (k : Int) := by rw [w64 (n := 2 * (k : Int)) (by omega) (by omega), w64 (by omega) (by omega)]
theorem wan (n k : Nat) (hn : n ≤ 60) (hk : k ≤ n) : IntKind.u64.wrap (wrap64 ((n : Int) - (k : Int))) = ((n - k : Nat) : Int) := by rw [w64 (by omega) (by omega), u64w (by omega) (by omega)]; omega
theorem wak (k : Nat) (hk : k ≤ 60) : IntKind.u64.wrap (wrap64 ((k : Int) + 1)) = ((k + 1 : Nat) : Int) := by rw [w64 (by omega) (by omega), u64w (by omega) (by omega)]; omega
theorem wam (c m : Nat) (hc : c ≤ 1152921504606846976) (hm : m ≤ 60) (h : c * m < 9223372036854775808) : bits_Mul64.f (c : Int) (m : Int) = some (0, ((c * m : Nat) : Int)) := by
  rw [Mul64_eq _ _ (by omega) (by omega) (by omega) (by omega), ← Int.natCast_mul]
  generalize c * m = p at *
  rw [show (p : Int) / 18446744073709551616 = 0 by omega, show (p : Int) % 18446744073709551616 = (p : Int) by omega]
theorem wad (p k : Nat) (h : p < 9223372036854775808) : bits_Div64.f 0 (p : Int) ((k + 1 : Nat) : Int) = some (((p / (k + 1) : Nat) : Int), ((p % (k + 1) : Nat) : Int)) := by
  rw [Div64_eq _ _ (by omega) (by omega) (by omega)]
  rfl
theorem iWays_l0 (n : Nat) (t : Int) (hn : n ≤ 60) : ∀ (d k : Nat), k + d = n + 1 → Ev (fun q => impl_Ways.l0 q (n : Int) t ((prt n t k : Nat) : Int) ((ch n k : Nat) : Int) (k : Int)) ((wN n t : Nat) : Int) := by
  intro d
  induction d with
  | zero =>
    intro k hd
    obtain rfl : k = n + 1 := by omega
    exact Ev.fin (fun q => by rw [impl_Ways.l0, if_neg (by omega)]; rfl)
  | succ d ih =>
    intro k hd
    have hkn : k ≤ n := by omega
    have hp := prt_le hn t (show k ≤ n + 1 by omega)
    have hp1 := prt_le hn t (show k + 1 ≤ n + 1 by omega)
    have hc := Nat.le_trans (ch_le hn hkn) (p60 hn)
    have hi := ih (k + 1) (by omega)
    obtain ⟨h1, h2⟩ := ch_next hn hkn
    have em := wam (ch n k) (n - k) hc (by omega) h2
    have ed := wad (ch n k * (n - k)) k h2
    have hc1 : ch n (k + 1) ≤ 9223372036854775807 := by
      rw [← h1]
      exact Nat.le_trans (Nat.div_le_self _ _) (Nat.le_of_lt_succ h2)
    rw [h1] at ed
    clear h1 h2
    have ep : prt n t (k + 1) = prt n t k + if t ≤ (n : Int) - 2 * (k : Int) then ch n k else 0 := rfl
    have ec : IntKind.u64.wrap ((ch n k : Nat) : Int) = ((ch n k : Nat) : Int) := u64w (by omega) (by omega)
    have ew : wrap64 ((ch n (k + 1) : Nat) : Int) = ((ch n (k + 1) : Nat) : Int) := w64 (by omega) (by omega)
    by_cases hs : t ≤ (n : Int) - 2 * (k : Int)
    · rw [if_pos hs] at ep
      have es : wrap64 (((prt n t k : Nat) : Int) + ((ch n k : Nat) : Int)) = ((prt n t (k + 1) : Nat) : Int) := by
        clear em ed ec ew
        rw [ep, w64 (by omega) (by omega), Int.natCast_add]
      refine Ev.step (fun q => ?_) hi
      rw [impl_Ways.l0, if_pos (Int.ofNat_le.2 hkn), wa2 n k hn (by omega), if_pos hs, ec, wan n k hn hkn, em, Option.bind_some, wak k (by omega), ed, Option.bind_some, ew, wsucc (by omega), es]
    · rw [if_neg hs] at ep
      refine Ev.step (fun q => ?_) hi
      rw [impl_Ways.l0, if_pos (Int.ofNat_le.2 hkn), wa2 n k hn (by omega), if_neg hs, ec, wan n k hn hkn, em, Option.bind_some, wak k (by omega), ed, Option.bind_some, ew, wsucc (by omega), ep]; rfl
/-- What both tell. -/
def waysM (n t : Int) : Int := if 0 ≤ n ∧ n ≤ 60 then ((wN n.toNat t : Nat) : Int) else 0
theorem waysM_nat {n : Nat} (h : n ≤ 60) (t : Int) : waysM (n : Int) t = ((wN n t : Nat) : Int) := by
  unfold waysM; rw [if_pos (by omega), Int.toNat_natCast]
theorem iWays_ev (n t : Int) : Ev (fun k => impl_Ways.f k n t) (waysM n t) := by
  unfold impl_Ways.f
  by_cases h0 : n < 0
  · exact Ev.pos h0 (Ev.fin (fun k => by rw [impl_Ways.j0, if_pos rfl]; unfold waysM; rw [if_neg (by omega)]))
  · refine Ev.neg h0 ?_
    by_cases h1 : n > 60
    · exact Ev.fin (fun k => by rw [impl_Ways.j0, decide_eq_true h1, if_pos rfl]; unfold waysM; rw [if_neg (by omega)])
    · obtain ⟨n, rfl⟩ : ∃ m : Nat, n = m := ⟨n.toNat, by omega⟩
      rw [waysM_nat (by omega)]
      have hz : ch n 0 = 1 := by
        cases n with
        | zero => rfl
        | succ n => rfl
      have hl := iWays_l0 n t (by omega) (n + 1) 0 (by omega)
      rw [hz] at hl
      exact Ev.step (f := fun q => impl_Ways.l0 q (n : Int) t ((prt n t 0 : Nat) : Int) ((1 : Nat) : Int) ((0 : Nat) : Int)) (fun k => by rw [impl_Ways.j0, decide_eq_false h1, if_neg (by decide)]; rfl) hl

theorem l1In_eq (a b c : Int) : spec_l1In.f a b c = some (decide (b ≤ a ∧ a ≤ c)) := by
  unfold spec_l1In.f
  by_cases h : b ≤ a
  · rw [if_pos h]; simp [h]
  · rw [if_neg h]; simp [h]

def cst (l : List Nat) : List Int := l.map (fun x : Nat => (x : Int))
theorem cst_len (l : List Nat) : (cst l).length = l.length := List.length_map (fun x : Nat => (x : Int))
theorem rd_cst (l : List Nat) (i : Nat) : rd (cst l) (i : Int) = ((l.getD i 0 : Nat) : Int) := by
  unfold rd cst
  rw [Int.toNat_natCast, List.getD_eq_getElem?_getD, List.getD_eq_getElem?_getD, List.getElem?_map]
  cases l[i]? <;> rfl
theorem adj_len : ∀ l : List Nat, (adj l).length = l.length - 1
  | [] => rfl
  | [_] => rfl
  | x :: y :: t => by
    show (adj (y :: t)).length + 1 = _
    rw [adj_len (y :: t)]; rfl
theorem adj_get : ∀ (l : List Nat) (i : Nat), i + 1 < l.length → (adj l)[i]? = some (l.getD i 0 + l.getD (i + 1) 0)
  | [], _, h => by simp at h
  | [_], _, h => by simp at h
  | x :: y :: t, 0, _ => rfl
  | x :: y :: t, i + 1, h => adj_get (y :: t) i (by simpa using h)
theorem take_snoc {α : Type} {l : List α} {i : Nat} {a : α} (h : l[i]? = some a) : l.take (i + 1) = l.take i ++ [a] := by
  rw [List.take_add_one, h]; rfl
theorem sWays_l1 (n t r : Int) (i : Nat) (hi : i ≤ 59) : ∀ (d j : Nat), 1 ≤ j → j + d = (row i).length → Ev (fun k => spec_Ways.l0 k n t (cst (row (i + 1))) ((i + 1 : Nat) : Int)) r → Ev (fun k => spec_Ways.l1 k n t (cst (row i)) (i : Int) (cst ((1 :: adj (row i)).take j)) (j : Int)) r := by
  intro d
  induction d with
  | zero =>
    intro j hj hd hr
    have hl := row_len (show i ≤ 60 by omega)
    have ea := adj_len (row i)
    refine Ev.step (fun k => ?_) hr
    have e : (1 :: adj (row i)).take j = 1 :: adj (row i) := List.take_of_length_le (by rw [List.length_cons]; omega)
    have e2 : cst (1 :: adj (row i)) ++ [(1 : Int)] = cst (row (i + 1)) := by unfold cst; rw [show row (i + 1) = (1 :: adj (row i)) ++ [1] from rfl, List.map_append]; rfl
    rw [spec_Ways.l1, if_neg (by rw [cst_len]; omega), e, if_pos (by rw [cst_len, List.length_cons]; omega), e2, wsucc (by omega)]
  | succ d ih =>
    intro j hj hd hr
    have hl := row_len (show i ≤ 60 by omega)
    have ea := adj_len (row i)
    refine Ev.step (fun k => ?_) (ih (j + 1) (by omega) (by omega) hr)
    have e1 : wrap64 ((j : Int) - 1) = ((j - 1 : Nat) : Int) := by rw [w64 (by omega) (by omega)]; omega
    have b1 : ch i (j - 1) ≤ 2 ^ i := ch_le (by omega) (by omega)
    have b2 : ch i j ≤ 2 ^ i := ch_le (by omega) (by omega)
    have b3 := p60 (show i ≤ 60 by omega)
    have hg := adj_get (row i) (j - 1) (by omega)
    rw [show j - 1 + 1 = j by omega] at hg
    have e3 : (1 :: adj (row i)).take (j + 1) = (1 :: adj (row i)).take j ++ [(row i).getD (j - 1) 0 + (row i).getD j 0] := take_snoc (by
      obtain ⟨q, rfl⟩ : ∃ q, j = q + 1 := ⟨j - 1, by omega⟩
      exact hg)
    have e4 : wrap64 ((((row i).getD (j - 1) 0 : Nat) : Int) + (((row i).getD j 0 : Nat) : Int)) = (((row i).getD (j - 1) 0 + (row i).getD j 0 : Nat) : Int) := by
      unfold ch at b1 b2
      rw [w64 (by omega) (by omega)]; omega
    have e5 : (cst ((1 :: adj (row i)).take j)).length = j := by rw [cst_len, List.length_take, List.length_cons]; omega
    rw [spec_Ways.l1, if_pos (by rw [cst_len]; omega), e1, if_pos (by omega), if_pos (by rw [cst_len]; omega), if_pos (by omega), if_pos (by omega), rd_cst, rd_cst, e4, wsucc (by omega), e3]
    congr 1
    unfold cst
    rw [List.map_append]; rfl
theorem sWays_l2 (n : Nat) (t : Int) (hn : n ≤ 60) : ∀ (d k : Nat), k + d = n + 1 → Ev (fun q => spec_Ways.l2 q (n : Int) t (cst (row n)) ((sumTo (fun k => if t ≤ 2 * (k : Int) - (n : Int) then ch n k else 0) k : Nat) : Int) (k : Int)) ((wN n t : Nat) : Int) := by
  intro d
  have hl := row_len hn
  have hle : ∀ m, m ≤ n + 1 → sumTo (fun k => if t ≤ 2 * (k : Int) - (n : Int) then ch n k else 0) m ≤ 1152921504606846976 := fun m hm => Nat.le_trans (part_le n (fun k => t ≤ 2 * (k : Int) - (n : Int)) hn hm) (p60 hn)
  induction d with
  | zero =>
    intro k hd
    obtain rfl : k = n + 1 := by omega
    exact Ev.fin (fun q => by rw [spec_Ways.l2, if_neg (by rw [cst_len]; omega), wN_rev hn])
  | succ d ih =>
    intro k hd
    have h1 := hle k (by omega)
    have h2 := hle (k + 1) (by omega)
    have e2 : wrap64 (wrap64 (2 * (k : Int)) - (n : Int)) = 2 * (k : Int) - (n : Int) := by rw [w64 (n := 2 * (k : Int)) (by omega) (by omega), w64 (by omega) (by omega)]
    have ep : sumTo (fun k => if t ≤ 2 * (k : Int) - (n : Int) then ch n k else 0) (k + 1) = sumTo (fun k => if t ≤ 2 * (k : Int) - (n : Int) then ch n k else 0) k + if t ≤ 2 * (k : Int) - (n : Int) then ch n k else 0 := rfl
    refine Ev.step (fun q => ?_) (ih (k + 1) (by omega))
    generalize sumTo (fun k => if t ≤ 2 * (k : Int) - (n : Int) then ch n k else 0) k = S0 at *
    generalize sumTo (fun k => if t ≤ 2 * (k : Int) - (n : Int) then ch n k else 0) (k + 1) = S1 at *
    by_cases hs : t ≤ 2 * (k : Int) - (n : Int)
    · rw [if_pos hs] at ep
      unfold ch at ep
      have es : wrap64 ((S0 : Int) + (((row n).getD k 0 : Nat) : Int)) = (S1 : Int) := by rw [w64 (by omega) (by omega)]; omega
      rw [spec_Ways.l2, if_pos (by rw [cst_len]; omega), e2, if_pos hs, if_pos (by omega), rd_cst, es, wsucc (by omega)]
    · rw [if_neg hs, Nat.add_zero] at ep
      rw [spec_Ways.l2, if_pos (by rw [cst_len]; omega), e2, if_neg hs, wsucc (by omega), ep]
theorem sWays_l0 (n : Nat) (t : Int) (hn : n ≤ 60) : ∀ (d i : Nat), i + d = n → Ev (fun k => spec_Ways.l0 k (n : Int) t (cst (row i)) (i : Int)) ((wN n t : Nat) : Int) := by
  intro d
  induction d with
  | zero =>
    intro i hd
    obtain rfl : i = n := by omega
    have h2 := sWays_l2 i t hn (i + 1) 0 (by omega)
    exact Ev.step (f := fun q => spec_Ways.l2 q (i : Int) t (cst (row i)) ((sumTo (fun k => if t ≤ 2 * (k : Int) - (i : Int) then ch i k else 0) 0 : Nat) : Int) ((0 : Nat) : Int)) (fun k => by rw [spec_Ways.l0, if_neg (by omega)]; rfl) h2
  | succ d ih =>
    intro i hd
    have hl := row_len (show i ≤ 60 by omega)
    have h1 := sWays_l1 (n : Int) t _ i (by omega) (row i).length.pred 1 (Nat.le_refl _) (by rw [Nat.pred_eq_sub_one]; omega) (ih (i + 1) (by omega))
    exact Ev.step (f := fun q => spec_Ways.l1 q (n : Int) t (cst (row i)) (i : Int) (cst ((1 :: adj (row i)).take 1)) ((1 : Nat) : Int)) (fun k => by rw [spec_Ways.l0, if_pos (by omega)]; rfl) h1
theorem sWays_ev (n t : Int) : Ev (fun k => spec_Ways.f k n t) (waysM n t) := by
  unfold spec_Ways.f
  refine Ev.bind0 (l1In_eq _ _ _) ?_
  by_cases h : 0 ≤ n ∧ n ≤ 60
  · obtain ⟨n, rfl⟩ : ∃ m : Nat, n = m := ⟨n.toNat, by omega⟩
    rw [waysM_nat (by omega)]
    have h3 : Ev (fun k => spec_Ways.l0 k (n : Int) t ([1] : List Int) 0) ((wN n t : Nat) : Int) := sWays_l0 n t (by omega) n 0 (by omega)
    exact Ev.pos (by simpa using h) h3
  · refine Ev.neg (by simpa using h) (Ev.cast (Ev.now 0) ?_)
    unfold waysM; rw [if_neg h]

theorem shl1 {n : Nat} (h : n ≤ 60) : shl .i64 1 (n : Int) = ((2 ^ n : Nat) : Int) := by
  have hp := p60 h
  have e : (1 : Int) * 2 ^ (min n 64) = ((2 ^ n : Nat) : Int) := by
    rw [show min n 64 = n by omega, Int.one_mul]; exact (Int.natCast_pow 2 n).symm
  unfold shl
  rw [Int.toNat_natCast, show IntKind.bits .i64 = 64 from rfl, e]
  clear e
  generalize 2 ^ n = P at *
  rw [IntKind.wrap_i64]; omega
theorem FnWays : laws_FnWays.Pure := by
  intro l hl hl8 hb
  refine Ev.rounds ?_
  unfold laws_FnWays.f
  refine Ev.bind0 rfl ?_
  by_cases hg : (l.length : Int) > 1048576
  · exact Ev.pos (decide_eq_true hg) (Ev.now true)
  refine Ev.neg (by rw [decide_eq_true_eq]; exact hg) ?_
  obtain ⟨a, ha, ea⟩ := at_ex l 0 (by omega) (by omega) hb
  obtain ⟨b, hb2, eb⟩ := at_ex l 1 (by omega) (by omega) hb
  refine Ev.bind0 ea ?_
  refine Ev.bind0 eb ?_
  have e1 : Int.tmod (a : Int) 61 = ((a % 61 : Nat) : Int) := rfl
  have e2 : Int.tmod (b : Int) 70 = ((b % 70 : Nat) : Int) := rfl
  rw [e1, e2]
  have hn : a % 61 ≤ 60 := by omega
  have hq : b % 70 ≤ 69 := by omega
  generalize a % 61 = n at *
  generalize b % 70 = q at *
  have ew : IntKind.u64.wrap (n : Int) = (n : Int) := u64w (by omega) (by omega)
  have et : wrap64 ((q : Int) - 3) = (q : Int) - 3 := w64 (by omega) (by omega)
  have eu : wrap64 (1 - ((q : Int) - 3)) = 1 - ((q : Int) - 3) := w64 (by omega) (by omega)
  have en : wrap64 (-(n : Int)) = -(n : Int) := w64 (by omega) (by omega)
  rw [ew, et, eu, en, shl1 hn]
  have hp := p60 hn
  have hall := wN_all hn (Int.le_refl (-(n : Int)))
  have hboth := wN_both hn ((q : Int) - 3)
  have es : wrap64 (((2 ^ n : Nat) : Int) - ((wN n (1 - ((q : Int) - 3)) : Nat) : Int)) = ((wN n ((q : Int) - 3) : Nat) : Int) := by
    generalize 2 ^ n = P at *
    clear ew et eu en
    rw [w64 (by omega) (by omega)]; omega
  refine Ev.pos (by omega) ?_
  refine Ev.bind (iWays_ev _ _) ?_
  rw [waysM_nat hn, hall]
  refine Ev.pos rfl ?_
  refine Ev.bind (iWays_ev _ _) ?_
  refine Ev.bind (iWays_ev _ _) ?_
  rw [waysM_nat hn, waysM_nat hn, es]
  refine Ev.pos rfl ?_
  refine Ev.bind (iWays_ev _ _) ?_
  refine Ev.bind (sWays_ev _ _) ?_
  exact Ev.cast (Ev.now _) (by simp)

end Go.Proofs.Ytonmdhaollhekaa.Pure
