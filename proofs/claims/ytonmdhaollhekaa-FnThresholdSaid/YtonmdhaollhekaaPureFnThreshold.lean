/- A drawn threshold lets chance pass no more often than allowed, and one that is less too often (or is the least of all); no condition. -/
import Derived.Test.YtonmdhaollhekaaQFnThresholdx5
import Derived.Test.YtonmdhaollhekaaCom
import Derived.Test.YtonmdhaollhekaaWay
import Derived.Test.YtonmdhaollhekaaWd
set_option linter.unusedVariables false
set_option linter.unusedSimpArgs false
namespace Go.Proofs.Ytonmdhaollhekaa.Pure
open Go.RowKit Go.Proofs.Ytonmdhaollhekaa.PFnThreshold Go.Proofs.YtonmdhaollhekaaW.PrintWords Go.Proofs.YtonmdhaollhekaaW.PrintLast Go.Proofs.Ytonmdhaollhekaa.Com Go.Proofs.Ytonmdhaollhekaa.Way Go.Proofs.Ytonmdhaollhekaa.Wd

theorem big_eq (l : List Int) : laws_big.f l = some (decide ((l.length : Int) > 1048576)) := rfl

theorem l1New_l0 (l : List Int) (hl : l.length ≤ 1048576) : ∀ (d i : Nat) (h : Int), i + d = l.length → ∃ h', Ev (fun k => spec_l1New.l0 k l h (i : Int)) (l, 0, h') := by
  intro d
  induction d with
  | zero =>
    intro i h hd
    exact ⟨h, Ev.fin (fun k => by rw [spec_l1New.l0, if_neg (by omega)])⟩
  | succ d ih =>
    intro i h hd
    by_cases h4 : i < 4000
    · obtain ⟨h', e⟩ := ih (i + 1) _ (by omega)
      exact ⟨h', Ev.step (fun k => by rw [spec_l1New.l0, if_pos (by omega), if_pos (by omega), if_pos (by omega), wsucc (by omega)]) e⟩
    · exact ⟨h, Ev.fin (fun k => by rw [spec_l1New.l0, if_pos (by omega), if_neg (by omega)])⟩
theorem l1New_ex (l : List Int) (hl : l.length ≤ 1048576) (hw : Bytes l) : ∃ h, CurOk l 0 ∧ Ev (fun k => spec_l1New.f k l) (l, 0, h) := by
  obtain ⟨h, e⟩ := l1New_l0 l hl l.length 0 (wrap64 (71933 + (l.length : Int))) (by omega)
  exact ⟨h, ⟨by omega, by omega, hl, hw⟩, e⟩

theorem l1Byte_ex (s : List Int) (i h : Int) (hc : CurOk s i) : ∃ (x : Nat) (i' h' : Int), x < 256 ∧ CurOk s i' ∧ spec_l1Byte.f s i h = some ((x : Int), i', h') := by
  obtain ⟨h0, h1, h2, h3⟩ := hc
  unfold spec_l1Byte.f
  simp only [and64_255]
  by_cases hi : i < (s.length : Int)
  · rw [if_pos hi, if_pos h0]
    refine ⟨(wrap64 (bits .xor .i64 (wrap64 (wrap64 (h * 6364136223846793005) + 1442695040888963407) / 8589934592) (wrap64 (wrap64 (h * 6364136223846793005) + 1442695040888963407) / 35184372088832) % 256 + wrap64 (rd s i)) % 256).toNat, wrap64 (i + 1), wrap64 (wrap64 (h * 6364136223846793005) + 1442695040888963407), by omega, ⟨?_, ?_, h2, h3⟩, ?_⟩
    · rw [w64 (by omega) (by omega)]; omega
    · rw [w64 (by omega) (by omega)]; omega
    · rw [Int.toNat_of_nonneg (by omega)]
  · rw [if_neg hi]
    refine ⟨(bits .xor .i64 (wrap64 (wrap64 (h * 6364136223846793005) + 1442695040888963407) / 8589934592) (wrap64 (wrap64 (h * 6364136223846793005) + 1442695040888963407) / 35184372088832) % 256).toNat, i, wrap64 (wrap64 (h * 6364136223846793005) + 1442695040888963407), by omega, ⟨h0, h1, h2, h3⟩, ?_⟩
    rw [Int.toNat_of_nonneg (by omega)]

theorem l1Below_ex (s : List Int) (i h n : Int) (hc : CurOk s i) : ∃ (x : Nat) (i' h' : Int), ((x : Int) < n ∨ n ≤ 0 ∧ x = 0) ∧ CurOk s i' ∧ spec_l1Below.f s i h n = some ((x : Int), i', h') := by
  unfold spec_l1Below.f
  by_cases hn : n ≤ 0
  · exact ⟨0, i, h, .inr ⟨hn, rfl⟩, hc, by rw [if_pos hn]; rfl⟩
  rw [if_neg hn]
  obtain ⟨x, i1, h1, hx, c1, e1⟩ := l1Byte_ex s i h hc
  by_cases hn2 : n ≤ 256
  · rw [if_pos hn2, e1, Option.bind_some, if_neg (by omega)]
    have := Int.emod_lt_of_pos (x : Int) (show 0 < n by omega)
    have := Int.emod_nonneg (x : Int) (show n ≠ 0 by omega)
    refine ⟨((x : Int) % n).toNat, i1, h1, .inl (by omega), c1, ?_⟩
    rw [Int.tmod_eq_emod_of_nonneg (by omega), Int.toNat_of_nonneg (by omega)]
  · rw [if_neg hn2]
    obtain ⟨y, i2, h2, hy, c2, e2⟩ := l1Byte_ex s i1 h1 c1
    obtain ⟨z, i3, h3, hz, c3, e3⟩ := l1Byte_ex s i2 h2 c2
    obtain ⟨w, i4, h4, hw, c4, e4⟩ := l1Byte_ex s i3 h3 c3
    simp only [e1, e2, e3, e4, Option.bind_some]
    rw [if_neg (by omega), w64 (n := (x : Int) * 16777216) (by omega) (by omega), w64 (n := (y : Int) * 65536) (by omega) (by omega), w64 (n := (z : Int) * 256) (by omega) (by omega)]
    rw [w64 (n := (x : Int) * 16777216 + (y : Int) * 65536) (by omega) (by omega), w64 (n := (x : Int) * 16777216 + (y : Int) * 65536 + (z : Int) * 256) (by omega) (by omega), w64 (by omega) (by omega)]
    generalize hv : (x : Int) * 16777216 + (y : Int) * 65536 + (z : Int) * 256 + (w : Int) = v
    have hv0 : 0 ≤ v := by omega
    have := Int.emod_lt_of_pos v (show 0 < n by omega)
    have := Int.emod_nonneg v (show n ≠ 0 by omega)
    refine ⟨(v % n).toNat, i4, h4, .inl (by omega), c4, ?_⟩
    rw [Int.tmod_eq_emod_of_nonneg hv0, Int.toNat_of_nonneg (by omega)]

theorem l1PickInt_ex (s : List Int) (i h : Int) (l : List Int) (hl : l.length ≠ 0) (hc : CurOk s i) : ∃ (x : Int) (i' h' : Int), x ∈ l ∧ CurOk s i' ∧ spec_l1PickInt.f s i h l = some (x, i', h') := by
  obtain ⟨x, i1, h1, hx, c1, e1⟩ := l1Below_ex s i h (l.length : Int) hc
  have hlt : x < l.length := by omega
  refine ⟨rd l (x : Int), i1, h1, rd_mem hlt, c1, ?_⟩
  unfold spec_l1PickInt.f
  rw [e1, Option.bind_some, if_pos (by omega), if_pos (by omega)]

theorem and64m (n : Int) (h0 : 0 ≤ n) (h1 : n < 18446744073709551616) : Go.bits .and .u64 n 4294967295 = n % 4294967296 := by
  have e1 : (BitVec.ofInt 64 4294967295).toNat = 2 ^ 32 - 1 := by decide
  have key : (BitVec.ofInt 64 n &&& BitVec.ofInt 64 4294967295).toNat = (n % ((2 ^ 64 : Nat) : Int)).toNat % 2 ^ 32 := by
    rw [BitVec.toNat_and, BitVec.toNat_ofInt, e1, Nat.and_two_pow_sub_one_eq_mod]
  show IntKind.u64.wrap ((BitVec.ofInt 64 n &&& BitVec.ofInt 64 4294967295).toNat : Nat) = n % 4294967296
  rw [key, IntKind.wrap_u64]
  omega
theorem mul_parts (x1 x0 y1 y0 : Int) : (x1 * 4294967296 + x0) * (y1 * 4294967296 + y0) = x1 * y1 * 18446744073709551616 + (x1 * y0 + x0 * y1) * 4294967296 + x0 * y0 := by grind
theorem Mul64_eq (a b : Int) (ha : 0 ≤ a) (ha' : a < 18446744073709551616) (hb : 0 ≤ b) (hb' : b < 18446744073709551616) : bits_Mul64.f a b = some (a * b / 18446744073709551616, a * b % 18446744073709551616) := by
  unfold bits_Mul64.f
  rw [and64m a ha ha', and64m b hb hb']
  obtain ⟨x0, hx0⟩ : ∃ x, a % 4294967296 = x := ⟨_, rfl⟩
  obtain ⟨x1, hx1⟩ : ∃ x, a / 4294967296 = x := ⟨_, rfl⟩
  obtain ⟨y0, hy0⟩ : ∃ x, b % 4294967296 = x := ⟨_, rfl⟩
  obtain ⟨y1, hy1⟩ : ∃ x, b / 4294967296 = x := ⟨_, rfl⟩
  rw [hx0, hx1, hy0, hy1]
  have ea : a = x1 * 4294967296 + x0 := by omega
  have eb : b = y1 * 4294967296 + y0 := by omega
  have b1 : 0 ≤ x0 ∧ x0 ≤ 4294967295 := by omega
  have b2 : 0 ≤ x1 ∧ x1 ≤ 4294967295 := by omega
  have b3 : 0 ≤ y0 ∧ y0 ≤ 4294967295 := by omega
  have b4 : 0 ≤ y1 ∧ y1 ≤ 4294967295 := by omega
  have bd : ∀ {p q : Int}, 0 ≤ p ∧ p ≤ 4294967295 → 0 ≤ q ∧ q ≤ 4294967295 → 0 ≤ p * q ∧ p * q ≤ 18446744065119617025 := fun {p q} hp hq => ⟨Int.mul_nonneg hp.1 hq.1, by have := Int.mul_le_mul hp.2 hq.2 hq.1 (by omega); omega⟩
  have p11 := bd b2 b4
  have p10 := bd b2 b3
  have p01 := bd b1 b4
  have p00 := bd b1 b3
  have em := mul_parts x1 x0 y1 y0
  rw [← ea, ← eb] at em
  rw [em]
  clear em ea eb hx0 hx1 hy0 hy1 bd
  generalize x1 * y1 = m11 at *
  generalize x1 * y0 = m10 at *
  generalize x0 * y1 = m01 at *
  generalize x0 * y0 = m00 at *
  rw [u64w (n := m00) (by omega) (by omega), u64w (n := m10) (by omega) (by omega), u64w (n := m01) (by omega) (by omega), u64w (n := m11) (by omega) (by omega)]
  obtain ⟨t, ht⟩ : ∃ t, m10 + m00 / 4294967296 = t := ⟨_, rfl⟩
  rw [ht, u64w (n := t) (by omega) (by omega), and64m t (by omega) (by omega)]
  obtain ⟨s, hs⟩ : ∃ s, t % 4294967296 + m01 = s := ⟨_, rfl⟩
  rw [hs, u64w (n := s) (by omega) (by omega)]
  rw [u64w (n := m11 + t / 4294967296) (by omega) (by omega), u64w (n := m11 + t / 4294967296 + s / 4294967296) (by omega) (by omega), IntKind.wrap_u64]
  congr 2
  · omega

theorem Div64_eq (lo y : Int) (hy : 0 < y) (hl : 0 ≤ lo) (hl' : lo < 18446744073709551616) : bits_Div64.f 0 lo y = some (lo / y, lo % y) := by
  unfold bits_Div64.f
  rw [if_pos rfl, if_neg (by omega), if_neg (by omega)]
  have h1 : Int.tdiv lo y = lo / y := Int.tdiv_eq_ediv_of_nonneg hl
  have h2 : Int.tmod lo y = lo % y := Int.tmod_eq_emod_of_nonneg hl
  have h3 : lo / y ≤ lo := Int.ediv_le_self _ hl
  have h4 : 0 ≤ lo / y := Int.ediv_nonneg hl (by omega)
  rw [h1, h2, u64w h4 (by omega)]
/-- What stands in the program's sum ahead of the k-th step. -/
def prt (n : Nat) (t : Int) (m : Nat) : Nat := sumTo (fun k => if t ≤ (n : Int) - 2 * (k : Int) then ch n k else 0) m
theorem prt_le {n : Nat} (h : n ≤ 60) (t : Int) {m : Nat} (hm : m ≤ n + 1) : prt n t m ≤ 1152921504606846976 := Nat.le_trans (part_le n (fun k => t ≤ (n : Int) - 2 * (k : Int)) h hm) (p60 h)
theorem wa2 (n k : Nat) (hn : n ≤ 60) (hk : k ≤ 60) : wrap64 ((n : Int) - wrap64 (2 * (k : Int))) = (n : Int) - 2 * (k : Int) := by rw [w64 (n := 2 * (k : Int)) (by omega) (by omega), w64 (by omega) (by omega)]
theorem wan (n k : Nat) (hn : n ≤ 60) (hk : k ≤ n) : IntKind.u64.wrap (wrap64 ((n : Int) - (k : Int))) = ((n - k : Nat) : Int) := by rw [w64 (by omega) (by omega), u64w (by omega) (by omega)]; omega
theorem wak (k : Nat) (hk : k ≤ 60) : IntKind.u64.wrap (wrap64 ((k : Int) + 1)) = ((k + 1 : Nat) : Int) := by rw [w64 (by omega) (by omega), u64w (by omega) (by omega)]; omega
theorem wam (c m : Nat) (hc : c ≤ 1152921504606846976) (hm : m ≤ 60) (h : c * m < 9223372036854775808) : bits_Mul64.f (c : Int) (m : Int) = some (0, ((c * m : Nat) : Int)) := by
  rw [Mul64_eq _ _ (by omega) (by omega) (by omega) (by omega), ← Int.natCast_mul]
  generalize c * m = p at *
  rw [show (p : Int) / 18446744073709551616 = 0 by omega, show (p : Int) % 18446744073709551616 = (p : Int) by omega]
theorem wad (p k : Nat) (h : p < 9223372036854775808) : bits_Div64.f 0 (p : Int) ((k + 1 : Nat) : Int) = some (((p / (k + 1) : Nat) : Int), ((p % (k + 1) : Nat) : Int)) := by
  rw [Div64_eq _ _ (by omega) (by omega) (by omega)]
  rfl
theorem iWays_l0 (n : Nat) (t : Int) (hn : n ≤ 60) : ∀ (d k : Nat), k + d = n + 1 → Ev (fun q => impl_Ways.l0 q (n : Int) t ((prt n t k : Nat) : Int) ((ch n k : Nat) : Int) (k : Int)) ((wN n t : Nat) : Int) := by
  intro d
  induction d with
  | zero =>
    intro k hd
    obtain rfl : k = n + 1 := by omega
    exact Ev.fin (fun q => by rw [impl_Ways.l0, if_neg (by omega)]; rfl)
  | succ d ih =>
    intro k hd
    have hkn : k ≤ n := by omega
    have hp := prt_le hn t (show k ≤ n + 1 by omega)
    have hp1 := prt_le hn t (show k + 1 ≤ n + 1 by omega)
    have hc := Nat.le_trans (ch_le hn hkn) (p60 hn)
    have hi := ih (k + 1) (by omega)
    obtain ⟨h1, h2⟩ := ch_next hn hkn
    have em := wam (ch n k) (n - k) hc (by omega) h2
    have ed := wad (ch n k * (n - k)) k h2
    have hc1 : ch n (k + 1) ≤ 9223372036854775807 := by
      rw [← h1]
      exact Nat.le_trans (Nat.div_le_self _ _) (Nat.le_of_lt_succ h2)
    rw [h1] at ed
    clear h1 h2
    have ep : prt n t (k + 1) = prt n t k + if t ≤ (n : Int) - 2 * (k : Int) then ch n k else 0 := rfl
    have ec : IntKind.u64.wrap ((ch n k : Nat) : Int) = ((ch n k : Nat) : Int) := u64w (by omega) (by omega)
    have ew : wrap64 ((ch n (k + 1) : Nat) : Int) = ((ch n (k + 1) : Nat) : Int) := w64 (by omega) (by omega)
    by_cases hs : t ≤ (n : Int) - 2 * (k : Int)
    · rw [if_pos hs] at ep
      have es : wrap64 (((prt n t k : Nat) : Int) + ((ch n k : Nat) : Int)) = ((prt n t (k + 1) : Nat) : Int) := by
        clear em ed ec ew
        rw [ep, w64 (by omega) (by omega), Int.natCast_add]
      refine Ev.step (fun q => ?_) hi
      rw [impl_Ways.l0, if_pos (Int.ofNat_le.2 hkn), wa2 n k hn (by omega), if_pos hs, ec, wan n k hn hkn, em, Option.bind_some, wak k (by omega), ed, Option.bind_some, ew, wsucc (by omega), es]
    · rw [if_neg hs] at ep
      refine Ev.step (fun q => ?_) hi
      rw [impl_Ways.l0, if_pos (Int.ofNat_le.2 hkn), wa2 n k hn (by omega), if_neg hs, ec, wan n k hn hkn, em, Option.bind_some, wak k (by omega), ed, Option.bind_some, ew, wsucc (by omega), ep]; rfl
/-- What both tell. -/
def waysM (n t : Int) : Int := if 0 ≤ n ∧ n ≤ 60 then ((wN n.toNat t : Nat) : Int) else 0
theorem waysM_nat {n : Nat} (h : n ≤ 60) (t : Int) : waysM (n : Int) t = ((wN n t : Nat) : Int) := by
  unfold waysM; rw [if_pos (by omega), Int.toNat_natCast]
theorem iWays_ev (n t : Int) : Ev (fun k => impl_Ways.f k n t) (waysM n t) := by
  unfold impl_Ways.f
  by_cases h0 : n < 0
  · exact Ev.pos h0 (Ev.fin (fun k => by rw [impl_Ways.j0, if_pos rfl]; unfold waysM; rw [if_neg (by omega)]))
  · refine Ev.neg h0 ?_
    by_cases h1 : n > 60
    · exact Ev.fin (fun k => by rw [impl_Ways.j0, decide_eq_true h1, if_pos rfl]; unfold waysM; rw [if_neg (by omega)])
    · obtain ⟨n, rfl⟩ : ∃ m : Nat, n = m := ⟨n.toNat, by omega⟩
      rw [waysM_nat (by omega)]
      have hz : ch n 0 = 1 := by
        cases n with
        | zero => rfl
        | succ n => rfl
      have hl := iWays_l0 n t (by omega) (n + 1) 0 (by omega)
      rw [hz] at hl
      exact Ev.step (f := fun q => impl_Ways.l0 q (n : Int) t ((prt n t 0 : Nat) : Int) ((1 : Nat) : Int) ((0 : Nat) : Int)) (fun k => by rw [impl_Ways.j0, decide_eq_false h1, if_neg (by decide)]; rfl) hl

theorem l1In_eq (a b c : Int) : spec_l1In.f a b c = some (decide (b ≤ a ∧ a ≤ c)) := by
  unfold spec_l1In.f
  by_cases h : b ≤ a
  · rw [if_pos h]; simp [h]
  · rw [if_neg h]; simp [h]

def cst (l : List Nat) : List Int := l.map (fun x : Nat => (x : Int))
theorem cst_len (l : List Nat) : (cst l).length = l.length := List.length_map (fun x : Nat => (x : Int))
theorem rd_cst (l : List Nat) (i : Nat) : rd (cst l) (i : Int) = ((l.getD i 0 : Nat) : Int) := by
  unfold rd cst
  rw [Int.toNat_natCast, List.getD_eq_getElem?_getD, List.getD_eq_getElem?_getD, List.getElem?_map]
  cases l[i]? <;> rfl
theorem adj_len : ∀ l : List Nat, (adj l).length = l.length - 1
  | [] => rfl
  | [_] => rfl
  | x :: y :: t => by
    show (adj (y :: t)).length + 1 = _
    rw [adj_len (y :: t)]; rfl
theorem adj_get : ∀ (l : List Nat) (i : Nat), i + 1 < l.length → (adj l)[i]? = some (l.getD i 0 + l.getD (i + 1) 0)
  | [], _, h => by simp at h
  | [_], _, h => by simp at h
  | x :: y :: t, 0, _ => rfl
  | x :: y :: t, i + 1, h => adj_get (y :: t) i (by simpa using h)
theorem take_snoc {α : Type} {l : List α} {i : Nat} {a : α} (h : l[i]? = some a) : l.take (i + 1) = l.take i ++ [a] := by
  rw [List.take_add_one, h]; rfl
theorem sWays_l1 (n t r : Int) (i : Nat) (hi : i ≤ 59) : ∀ (d j : Nat), 1 ≤ j → j + d = (row i).length → Ev (fun k => spec_Ways.l0 k n t (cst (row (i + 1))) ((i + 1 : Nat) : Int)) r → Ev (fun k => spec_Ways.l1 k n t (cst (row i)) (i : Int) (cst ((1 :: adj (row i)).take j)) (j : Int)) r := by
  intro d
  induction d with
  | zero =>
    intro j hj hd hr
    have hl := row_len (show i ≤ 60 by omega)
    have ea := adj_len (row i)
    refine Ev.step (fun k => ?_) hr
    have e : (1 :: adj (row i)).take j = 1 :: adj (row i) := List.take_of_length_le (by rw [List.length_cons]; omega)
    have e2 : cst (1 :: adj (row i)) ++ [(1 : Int)] = cst (row (i + 1)) := by unfold cst; rw [show row (i + 1) = (1 :: adj (row i)) ++ [1] from rfl, List.map_append]; rfl
    rw [spec_Ways.l1, if_neg (by rw [cst_len]; omega), e, if_pos (by rw [cst_len, List.length_cons]; omega), e2, wsucc (by omega)]
  | succ d ih =>
    intro j hj hd hr
    have hl := row_len (show i ≤ 60 by omega)
    have ea := adj_len (row i)
    refine Ev.step (fun k => ?_) (ih (j + 1) (by omega) (by omega) hr)
    have e1 : wrap64 ((j : Int) - 1) = ((j - 1 : Nat) : Int) := by rw [w64 (by omega) (by omega)]; omega
    have b1 : ch i (j - 1) ≤ 2 ^ i := ch_le (by omega) (by omega)
    have b2 : ch i j ≤ 2 ^ i := ch_le (by omega) (by omega)
    have b3 := p60 (show i ≤ 60 by omega)
    have hg := adj_get (row i) (j - 1) (by omega)
    rw [show j - 1 + 1 = j by omega] at hg
    have e3 : (1 :: adj (row i)).take (j + 1) = (1 :: adj (row i)).take j ++ [(row i).getD (j - 1) 0 + (row i).getD j 0] := take_snoc (by
      obtain ⟨q, rfl⟩ : ∃ q, j = q + 1 := ⟨j - 1, by omega⟩
      exact hg)
    have e4 : wrap64 ((((row i).getD (j - 1) 0 : Nat) : Int) + (((row i).getD j 0 : Nat) : Int)) = (((row i).getD (j - 1) 0 + (row i).getD j 0 : Nat) : Int) := by
      unfold ch at b1 b2
      rw [w64 (by omega) (by omega)]; omega
    have e5 : (cst ((1 :: adj (row i)).take j)).length = j := by rw [cst_len, List.length_take, List.length_cons]; omega
    rw [spec_Ways.l1, if_pos (by rw [cst_len]; omega), e1, if_pos (by omega), if_pos (by rw [cst_len]; omega), if_pos (by omega), if_pos (by omega), rd_cst, rd_cst, e4, wsucc (by omega), e3]
    congr 1
    unfold cst
    rw [List.map_append]; rfl
theorem sWays_l2 (n : Nat) (t : Int) (hn : n ≤ 60) : ∀ (d k : Nat), k + d = n + 1 → Ev (fun q => spec_Ways.l2 q (n : Int) t (cst (row n)) ((sumTo (fun k => if t ≤ 2 * (k : Int) - (n : Int) then ch n k else 0) k : Nat) : Int) (k : Int)) ((wN n t : Nat) : Int) := by
  intro d
  have hl := row_len hn
  have hle : ∀ m, m ≤ n + 1 → sumTo (fun k => if t ≤ 2 * (k : Int) - (n : Int) then ch n k else 0) m ≤ 1152921504606846976 := fun m hm => Nat.le_trans (part_le n (fun k => t ≤ 2 * (k : Int) - (n : Int)) hn hm) (p60 hn)
  induction d with
  | zero =>
    intro k hd
    obtain rfl : k = n + 1 := by omega
    exact Ev.fin (fun q => by rw [spec_Ways.l2, if_neg (by rw [cst_len]; omega), wN_rev hn])
  | succ d ih =>
    intro k hd
    have h1 := hle k (by omega)
    have h2 := hle (k + 1) (by omega)
    have e2 : wrap64 (wrap64 (2 * (k : Int)) - (n : Int)) = 2 * (k : Int) - (n : Int) := by rw [w64 (n := 2 * (k : Int)) (by omega) (by omega), w64 (by omega) (by omega)]
    have ep : sumTo (fun k => if t ≤ 2 * (k : Int) - (n : Int) then ch n k else 0) (k + 1) = sumTo (fun k => if t ≤ 2 * (k : Int) - (n : Int) then ch n k else 0) k + if t ≤ 2 * (k : Int) - (n : Int) then ch n k else 0 := rfl
    refine Ev.step (fun q => ?_) (ih (k + 1) (by omega))
    generalize sumTo (fun k => if t ≤ 2 * (k : Int) - (n : Int) then ch n k else 0) k = S0 at *
    generalize sumTo (fun k => if t ≤ 2 * (k : Int) - (n : Int) then ch n k else 0) (k + 1) = S1 at *
    by_cases hs : t ≤ 2 * (k : Int) - (n : Int)
    · rw [if_pos hs] at ep
      unfold ch at ep
      have es : wrap64 ((S0 : Int) + (((row n).getD k 0 : Nat) : Int)) = (S1 : Int) := by rw [w64 (by omega) (by omega)]; omega
      rw [spec_Ways.l2, if_pos (by rw [cst_len]; omega), e2, if_pos hs, if_pos (by omega), rd_cst, es, wsucc (by omega)]
    · rw [if_neg hs, Nat.add_zero] at ep
      rw [spec_Ways.l2, if_pos (by rw [cst_len]; omega), e2, if_neg hs, wsucc (by omega), ep]
theorem sWays_l0 (n : Nat) (t : Int) (hn : n ≤ 60) : ∀ (d i : Nat), i + d = n → Ev (fun k => spec_Ways.l0 k (n : Int) t (cst (row i)) (i : Int)) ((wN n t : Nat) : Int) := by
  intro d
  induction d with
  | zero =>
    intro i hd
    obtain rfl : i = n := by omega
    have h2 := sWays_l2 i t hn (i + 1) 0 (by omega)
    exact Ev.step (f := fun q => spec_Ways.l2 q (i : Int) t (cst (row i)) ((sumTo (fun k => if t ≤ 2 * (k : Int) - (i : Int) then ch i k else 0) 0 : Nat) : Int) ((0 : Nat) : Int)) (fun k => by rw [spec_Ways.l0, if_neg (by omega)]; rfl) h2
  | succ d ih =>
    intro i hd
    have hl := row_len (show i ≤ 60 by omega)
    have h1 := sWays_l1 (n : Int) t _ i (by omega) (row i).length.pred 1 (Nat.le_refl _) (by rw [Nat.pred_eq_sub_one]; omega) (ih (i + 1) (by omega))
    exact Ev.step (f := fun q => spec_Ways.l1 q (n : Int) t (cst (row i)) (i : Int) (cst ((1 :: adj (row i)).take 1)) ((1 : Nat) : Int)) (fun k => by rw [spec_Ways.l0, if_pos (by omega)]; rfl) h1
theorem sWays_ev (n t : Int) : Ev (fun k => spec_Ways.f k n t) (waysM n t) := by
  unfold spec_Ways.f
  refine Ev.bind0 (l1In_eq _ _ _) ?_
  by_cases h : 0 ≤ n ∧ n ≤ 60
  · obtain ⟨n, rfl⟩ : ∃ m : Nat, n = m := ⟨n.toNat, by omega⟩
    rw [waysM_nat (by omega)]
    have h3 : Ev (fun k => spec_Ways.l0 k (n : Int) t ([1] : List Int) 0) ((wN n t : Nat) : Int) := sWays_l0 n t (by omega) n 0 (by omega)
    exact Ev.pos (by simpa using h) h3
  · refine Ev.neg (by simpa using h) (Ev.cast (Ev.now 0) ?_)
    unfold waysM; rw [if_neg h]

theorem trim_l0 : ∀ (m : Nat) (l : List Int), l.length = m → m ≤ 1000000 → W32 l → ∃ r, Ev (fun k => spec_l1Trim.l0 k l) r ∧ vl r = vl l ∧ W32 r ∧ Tr r ∧ r.length ≤ l.length := by
  intro m
  induction m with
  | zero =>
    intro l hl hm hw
    exact ⟨l, Ev.fin (fun k => by rw [spec_l1Trim.l0, if_neg (by omega)]), rfl, hw, .inl hl, Nat.le_refl _⟩
  | succ m ih =>
    intro l hl hm hw
    have e1 : wrap64 ((l.length : Int) - 1) = ((l.length - 1 : Nat) : Int) := by rw [w64 (by omega) (by omega)]; omega
    by_cases h0 : rd l ((l.length - 1 : Nat) : Int) = 0
    · have hlt : (l.take (l.length - 1)).length = l.length - 1 := by rw [List.length_take]; omega
      obtain ⟨r, h1, h2, h3, h4, h5⟩ := ih (l.take (l.length - 1)) (by omega) (by omega) (hw.take _)
      refine ⟨r, Ev.step (fun k => ?_) h1, ?_, h3, h4, by omega⟩
      · rw [spec_l1Trim.l0, if_pos (by omega), e1, if_pos (by omega), if_pos (by omega), if_pos h0, if_pos (by omega), Int.toNat_natCast]
      · have e := split_last (l := l) (by omega)
        rw [h2]
        have e2 := congrArg vl e
        rw [vl_app, h0] at e2
        rw [e2]
        show _ = _ + Bp _ * (0 + 4294967296 * 0)
        simp
    · exact ⟨l, Ev.fin (fun k => by rw [spec_l1Trim.l0, if_pos (by omega), e1, if_pos (by omega), if_pos (by omega), if_neg h0]), rfl, hw, .inr h0, Nat.le_refl _⟩
theorem trim_ex (l : List Int) (hm : l.length ≤ 1000000) (hw : W32 l) : ∃ r, Ev (fun k => spec_l1Trim.f k l) r ∧ vl r = vl l ∧ W32 r ∧ Tr r ∧ r.length ≤ l.length := trim_l0 l.length l rfl hm hw
theorem l1Nat_ex (a : Int) (h0 : 0 ≤ a) (h1 : a < 18446744073709551616) : ∃ r, Ev (fun k => spec_l1Nat.f k a) r ∧ vl r = a ∧ W32 r ∧ Tr r ∧ r.length ≤ 2 := by
  obtain ⟨r, e, p1, p2, p3, p4⟩ := trim_ex [a % 4294967296, a / 4294967296 % 4294967296] (by simp) (fun x hx => by
    simp only [List.mem_cons, List.not_mem_nil, or_false] at hx
    omega)
  refine ⟨r, Ev.bind e (Ev.now r), ?_, p2, p3, p4⟩
  rw [p1]
  show a % 4294967296 + 4294967296 * (a / 4294967296 % 4294967296 + 4294967296 * 0) = a
  omega
theorem wadd (a b : Nat) (h : a + b < 4611686018427387904) : wrap64 ((a : Int) + (b : Int)) = ((a + b : Nat) : Int) := by rw [w64 (by omega) (by omega)]; omega

theorem cmp_l0 (a b : List Int) (ha : W32 a) (hb : W32 b) (hl : a.length = b.length) (hm : a.length ≤ 1000000) : ∀ (n : Nat), n ≤ a.length → ∃ c : Int, Ev (fun k => spec_l1Cmp.l0 k a b ((n : Int) - 1)) c ∧ (c > 0 ↔ vl (a.take n) > vl (b.take n)) := by
  intro n
  induction n with
  | zero =>
    intro _
    refine ⟨0, Ev.fin (fun k => by rw [spec_l1Cmp.l0, if_neg (by omega)]), ?_⟩
    simp
  | succ n ih =>
    intro hn
    have e1 : ((n + 1 : Nat) : Int) - 1 = (n : Int) := by omega
    have e2 : wrap64 ((n : Int) - 1) = (n : Int) - 1 := w64 (by omega) (by omega)
    have ea := take_rd (xs := a) (i := n) (by omega)
    have eb := take_rd (xs := b) (i := n) (by omega)
    have ba := vl_bound _ (ha.take n)
    have bb := vl_bound _ (hb.take n)
    have hla : (a.take n).length = n := by rw [List.length_take]; omega
    have hlb : (b.take n).length = n := by rw [List.length_take]; omega
    have va : vl (a.take (n + 1)) = vl (a.take n) + Bp n * rd a (n : Int) := by rw [ea, vl_app, hla]; show _ + Bp n * (rd a (n : Int) + 4294967296 * 0) = _; rw [show rd a (n : Int) + 4294967296 * 0 = rd a (n : Int) by omega]
    have vb : vl (b.take (n + 1)) = vl (b.take n) + Bp n * rd b (n : Int) := by rw [eb, vl_app, hlb]; show _ + Bp n * (rd b (n : Int) + 4294967296 * 0) = _; rw [show rd b (n : Int) + 4294967296 * 0 = rd b (n : Int) by omega]
    rw [hla] at ba
    rw [hlb] at bb
    rw [va, vb]
    have hp := Bp_pos n
    obtain ⟨c, h1, h2⟩ := ih (by omega)
    by_cases he : rd a (n : Int) = rd b (n : Int)
    · refine ⟨c, Ev.step (fun k => ?_) h1, ?_⟩
      · rw [e1, spec_l1Cmp.l0, if_pos (by omega), if_pos (by omega), if_pos (by omega), if_pos (by omega), if_pos he, e2]
      · rw [h2, he]; omega
    · by_cases hlt : rd a (n : Int) < rd b (n : Int)
      · refine ⟨-1, Ev.fin (fun k => ?_), ?_⟩
        · rw [e1, spec_l1Cmp.l0, if_pos (by omega), if_pos (by omega), if_pos (by omega), if_pos (by omega), if_neg he, if_pos hlt]
        · have h3 := Int.mul_le_mul_of_nonneg_left (show rd a (n : Int) + 1 ≤ rd b (n : Int) by omega) (show 0 ≤ Bp n by omega)
          rw [Int.mul_add, Int.mul_one] at h3
          constructor
          · intro h; omega
          · intro h; omega
      · refine ⟨1, Ev.fin (fun k => ?_), ?_⟩
        · rw [e1, spec_l1Cmp.l0, if_pos (by omega), if_pos (by omega), if_pos (by omega), if_pos (by omega), if_neg he, if_neg hlt]
        · have h3 := Int.mul_le_mul_of_nonneg_left (show rd b (n : Int) + 1 ≤ rd a (n : Int) by omega) (show 0 ≤ Bp n by omega)
          rw [Int.mul_add, Int.mul_one] at h3
          constructor
          · intro h; omega
          · intro h; omega
theorem cmp_ex (a b : List Int) (ha : W32 a) (hb : W32 b) (ta : Tr a) (tb : Tr b) (hm : a.length ≤ 1000000) (hm2 : b.length ≤ 1000000) : ∃ c : Int, Ev (fun k => spec_l1Cmp.f k a b) c ∧ (c > 0 ↔ vl a > vl b) := by
  unfold spec_l1Cmp.f
  have ba := vl_bound a ha
  have bb := vl_bound b hb
  by_cases hl : a.length = b.length
  · obtain ⟨c, h1, h2⟩ := cmp_l0 a b ha hb hl hm a.length (Nat.le_refl _)
    rw [List.take_length, hl, List.take_length] at h2
    refine ⟨c, Ev.pos (by omega) ?_, h2⟩
    rw [w64 (by omega) (by omega)]; exact h1
  · by_cases hlt : a.length < b.length
    · refine ⟨-1, Ev.neg (by omega) (Ev.pos (by omega) (Ev.now _)), ?_⟩
      have h1 := Tr_big hb tb (by omega)
      have h2 := Bp_mono (show a.length ≤ b.length - 1 by omega)
      constructor
      · intro h; omega
      · intro h; omega
    · refine ⟨1, Ev.neg (by omega) (Ev.neg (by omega) (Ev.now _)), ?_⟩
      have h1 := Tr_big ha ta (by omega)
      have h2 := Bp_mono (show b.length ≤ a.length - 1 by omega)
      constructor
      · intro h; omega
      · intro h; omega

theorem take_vl {b : List Int} {j : Nat} (h : j < b.length) : vl (b.take (j + 1)) = vl (b.take j) + Bp j * rd b (j : Int) := by
  rw [take_rd h, vl_app, List.length_take, show min j b.length = j by omega]
  show _ + Bp j * (rd b (j : Int) + 4294967296 * 0) = _
  rw [show rd b (j : Int) + 4294967296 * 0 = rd b (j : Int) by omega]
theorem mul_step (V T ai bj o c q r Bi Bj Bij L : Int) (hB : Bij = Bi * Bj) (hv : ai * bj + o + c = q * 4294967296 + r) (h : L + c * Bij = V + ai * (Bi * T)) :
    L + Bij * (r - o) + q * (4294967296 * Bij) = V + ai * (Bi * (T + Bj * bj)) := by
  subst hB
  grind
theorem mul_word (x y o c : Int) (hx : 0 ≤ x ∧ x < 4294967296) (hy : 0 ≤ y ∧ y < 4294967296) (ho : 0 ≤ o ∧ o < 4294967296) (hc : 0 ≤ c ∧ c < 4294967296) : IntKind.u64.wrap (IntKind.u64.wrap (IntKind.u64.wrap (IntKind.u64.wrap x * IntKind.u64.wrap y) + IntKind.u64.wrap o) + c) = x * y + o + c ∧ 0 ≤ x * y + o + c ∧ x * y + o + c < 18446744073709551616 := by
  have p1 := Int.mul_nonneg hx.1 hy.1
  have p2 := Int.mul_le_mul (show x ≤ 4294967295 by omega) (show y ≤ 4294967295 by omega) hy.1 (by omega)
  rw [u64w (n := x) (by omega) (by omega), u64w (n := y) (by omega) (by omega), u64w (n := o) (by omega) (by omega)]
  generalize x * y = m at *
  rw [u64w (n := m) (by omega) (by omega), u64w (n := m + o) (by omega) (by omega), u64w (by omega) (by omega)]
  omega
theorem mul_l1 (a b : List Int) (ha : W32 a) (hb : W32 b) (hla : a.length ≤ 1000) (hlb : b.length ≤ 1000) (i : Nat) (hi : i < a.length) (V : Int) (P : List Int → Prop)
    (K : ∀ out, W32 out → out.length = a.length + b.length + 1 → (∀ p : Nat, i + 1 + b.length ≤ p → rd out (p : Int) = 0) → vl out = V + rd a (i : Int) * (Bp i * vl b) → ∃ r, Ev (fun k => spec_l1Mul.l0 k a b out ((i + 1 : Nat) : Int)) r ∧ P r) :
    ∀ (d j : Nat) (out : List Int) (c : Int), j + d = b.length → W32 out → out.length = a.length + b.length + 1 → 0 ≤ c ∧ c < 4294967296 → (∀ p : Nat, i + b.length ≤ p → rd out (p : Int) = 0) → vl out + c * Bp (i + j) = V + rd a (i : Int) * (Bp i * vl (b.take j)) →
    ∃ r, Ev (fun k => spec_l1Mul.l1 k a b out (i : Int) c (j : Int)) r ∧ P r := by
  intro d
  induction d with
  | zero =>
    intro j out c hd hw hl hc hz hv
    obtain rfl : j = b.length := by omega
    rw [List.take_length] at hv
    have e1 := wadd i b.length (by clear hv; omega)
    have e2 : (rd out ((i + b.length : Nat) : Int) + c % 4294967296) % 4294967296 = c := by rw [hz _ (Nat.le_refl _)]; clear hv e1; omega
    have g1 : i + b.length < out.length := by clear hv e1; omega
    have g2 : ¬ (b.length : Int) < (b.length : Int) := Int.lt_irrefl _
    obtain ⟨r, h1, h2⟩ := K (out.set (i + b.length) c) (hw.set _ hc) (by rw [List.length_set]; exact hl) (fun p hp => by rw [rd_set_ne (by clear hv e1 e2; omega)]; exact hz p (by clear hv e1 e2; omega)) (by
      rw [vl_set _ _ _ g1, hz _ (Nat.le_refl _), ← hv, Int.sub_zero, Int.mul_comm c])
    refine ⟨r, Ev.step (fun k => ?_) h1, h2⟩
    rw [spec_l1Mul.l1, if_neg g2, e1, if_pos (Int.natCast_nonneg _), if_pos (Int.ofNat_lt.2 g1), e2, Int.toNat_natCast, wsucc (by clear hv e1 e2; omega)]
  | succ d ih =>
    intro j out c hd hw hl hc hz hv
    have g1 : (j : Int) < (b.length : Int) := by clear hv; omega
    have g2 : (i : Int) < (a.length : Int) := by clear hv; omega
    have g3 : i + j < out.length := by clear hv; omega
    have g4 : ((i + j : Nat) : Int) < (out.length : Int) := by clear hv; omega
    have g5 : j < b.length := by clear hv; omega
    have g6 : i + j + 0 < 4611686018427387904 := by clear hv; omega
    have g7 : j + 1 + d = b.length := by clear hv; omega
    have ba := ha _ (rd_mem hi)
    have bb := hb _ (rd_mem g5)
    have bo := hw _ (rd_mem g3)
    have tv := take_vl g5
    have ms := mul_step V (vl (b.take j)) (rd a (i : Int)) (rd b (j : Int)) (rd out ((i + j : Nat) : Int)) c ((rd a (i : Int) * rd b (j : Int) + rd out ((i + j : Nat) : Int) + c) / 4294967296) ((rd a (i : Int) * rd b (j : Int) + rd out ((i + j : Nat) : Int) + c) % 4294967296) (Bp i) (Bp j) (Bp (i + j)) (vl out) (Bp_add i j) (by clear hv; omega) hv
    rw [← tv] at ms
    obtain ⟨k1, k2, k3⟩ := mul_word _ _ _ c ba bb bo hc
    obtain ⟨v, ev⟩ : ∃ v, rd a (i : Int) * rd b (j : Int) + rd out ((i + j : Nat) : Int) + c = v := ⟨_, rfl⟩
    rw [ev] at k1 k2 k3 ms
    have g8 : 0 ≤ v % 4294967296 ∧ v % 4294967296 < 4294967296 := by clear hv ms k1; omega
    have g9 : 0 ≤ v / 4294967296 ∧ v / 4294967296 < 4294967296 := by clear hv ms k1; omega
    obtain ⟨r, h1, h2⟩ := ih (j + 1) (out.set (i + j) (v % 4294967296)) (v / 4294967296) g7 (hw.set _ g8) (by rw [List.length_set]; exact hl) g9 (fun p hp => by rw [rd_set_ne (by clear hv ms k1; omega)]; exact hz p hp) (by
      rw [vl_set _ _ _ g3]
      exact ms)
    refine ⟨r, Ev.step (fun k => ?_) h1, h2⟩
    rw [spec_l1Mul.l1, if_pos g1, if_pos (Int.natCast_nonneg i), if_pos g2, if_pos (Int.natCast_nonneg j), wadd i j g6, if_pos (Int.natCast_nonneg _), if_pos g4, k1, Int.toNat_natCast, wsucc (Nat.lt_of_le_of_lt (Nat.le_add_left j i) g6)]
theorem mul_l0 (a b : List Int) (ha : W32 a) (hb : W32 b) (hla : a.length ≤ 1000) (hlb : b.length ≤ 1000) : ∀ (d i : Nat) (out : List Int), i + d = a.length → W32 out → out.length = a.length + b.length + 1 → (∀ p : Nat, i + b.length ≤ p → rd out (p : Int) = 0) → vl out = vl (a.take i) * vl b →
    ∃ r, Ev (fun k => spec_l1Mul.l0 k a b out (i : Int)) r ∧ (vl r = vl a * vl b ∧ W32 r ∧ Tr r ∧ r.length ≤ a.length + b.length + 1) := by
  intro d
  induction d with
  | zero =>
    intro i out hd hw hl hz hv
    obtain rfl : i = a.length := by omega
    rw [List.take_length] at hv
    obtain ⟨r, e, p1, p2, p3, p4⟩ := trim_ex out (by omega) hw
    refine ⟨r, Ev.step (fun k => by rw [spec_l1Mul.l0, if_neg (by omega)]) (Ev.bind e (Ev.now r)), by rw [p1, hv], p2, p3, by omega⟩
  | succ d ih =>
    intro i out hd hw hl hz hv
    have tv := take_vl (b := a) (j := i) (by omega)
    obtain ⟨r, h1, h2⟩ := mul_l1 a b ha hb hla hlb i (by omega) (vl out) (fun r => vl r = vl a * vl b ∧ W32 r ∧ Tr r ∧ r.length ≤ a.length + b.length + 1) (fun out' w' l' z' v' => ih (i + 1) out' (by omega) w' l' z' (by
      rw [v', hv, tv, Int.add_mul, ← Int.mul_assoc, Int.mul_comm (rd a (i : Int))])) b.length 0 out 0 (by omega) hw hl (by omega) hz (by
      show vl out + 0 * _ = vl out + rd a (i : Int) * (Bp i * 0)
      simp)
    exact ⟨r, Ev.step (f := fun k => spec_l1Mul.l1 k a b out (i : Int) 0 ((0 : Nat) : Int)) (fun k => by rw [spec_l1Mul.l0, if_pos (by omega)]; rfl) h1, h2⟩
theorem mul_ex (a b : List Int) (ha : W32 a) (hb : W32 b) (hla : a.length ≤ 1000) (hlb : b.length ≤ 1000) : ∃ r, Ev (fun k => spec_l1Mul.f k a b) r ∧ (vl r = vl a * vl b ∧ W32 r ∧ Tr r ∧ r.length ≤ a.length + b.length + 1) := by
  unfold spec_l1Mul.f
  have e : wrap64 (wrap64 ((a.length : Int) + (b.length : Int)) + 1) = ((a.length + b.length + 1 : Nat) : Int) := by rw [w64 (n := (a.length : Int) + (b.length : Int)) (by omega) (by omega), w64 (by omega) (by omega)]; omega
  obtain ⟨r, h1, h2⟩ := mul_l0 a b ha hb hla hlb a.length 0 (List.replicate (a.length + b.length + 1) 0) (by omega) (W32.rep _) List.length_replicate (fun p _ => rd_rep _ _) (by rw [vl_rep]; show (0 : Int) = 0 * _; rw [Int.zero_mul])
  refine ⟨r, ?_, h2⟩
  rw [e]
  exact Ev.pos (by omega) (Ev.pos (by rw [Int.toNat_natCast]; omega) (by rw [Int.toNat_natCast]; exact h1))

theorem or32_zero (n : Int) (h0 : 0 ≤ n) (h1 : n < 4294967296) : Go.bits .or .u32 0 n = n := by
  show IntKind.u32.wrap ((BitVec.ofInt 32 0 ||| BitVec.ofInt 32 n).toNat : Int) = n
  obtain ⟨m, rfl⟩ : ∃ m : Nat, n = m := ⟨n.toNat, by omega⟩
  have e : (BitVec.ofInt 32 (m : Int)).toNat = m := by rw [BitVec.ofInt_natCast, BitVec.toNat_ofNat]; exact Nat.mod_eq_of_lt (by omega)
  have e0 : (BitVec.ofInt 32 0).toNat = 0 := by decide
  rw [BitVec.toNat_or, e, e0, Nat.zero_or, IntKind.wrap_u32]
  omega
theorem p31 {s : Nat} (h : s ≤ 31) : 2 ^ s ≤ 2147483648 := by
  have h1 : 2 ^ s ≤ 2 ^ 31 := Nat.pow_le_pow_right (by omega) h
  have h2 : (2 : Nat) ^ 31 = 2147483648 := by decide
  omega
theorem wq2 {q : Nat} (h : q = 0 ∨ q = 1) : wrap64 (wrap64 ((q : Int) + 1) + 1) = ((q + 2 : Nat) : Int) ∧ wrap64 (q : Int) = (q : Int) ∧ wrap64 ((q : Int) + 0) = (q : Int) ∧ wrap64 ((q : Int) + 1) = ((q + 1 : Nat) : Int) := by
  rcases h with rfl | rfl <;> (refine ⟨?_, ?_, ?_, ?_⟩ <;> (unfold wrap64; omega))
theorem shl_run (a n q s x : Nat) (hq : q = 0 ∨ q = 1) (t1 : Int.tdiv (n : Int) 32 = (q : Int)) (t2 : Int.tmod (n : Int) 32 = (s : Int)) (hs : s ≤ 31) (hx : x ≤ 2147483648000) (es : shl .u64 (IntKind.u64.wrap (a : Int)) (IntKind.u64.wrap (s : Int)) = (x : Int)) :
    ∃ r, Ev (fun k => spec_l1Shl.f k [(a : Int)] (n : Int)) r ∧ vl r = ((x * 4294967296 ^ q : Nat) : Int) ∧ W32 r ∧ Tr r ∧ r.length ≤ 3 := by
  have hq1 : q ≤ 1 := by omega
  have hrep : (List.replicate (q + 2) (0 : Int)).length = q + 2 := List.length_replicate
  have b1 : 0 ≤ (x : Int) % 4294967296 ∧ (x : Int) % 4294967296 < 4294967296 := by omega
  have b2 : 0 ≤ (x : Int) / 4294967296 % 4294967296 ∧ (x : Int) / 4294967296 % 4294967296 < 4294967296 := by omega
  have W0 := W32.rep (q + 2)
  have W1 := W0.set q b1
  have W2 := W1.set (q + 1) b2
  have us : 0 ≤ IntKind.u64.wrap (s : Int) := by rw [u64w (n := (s : Int)) (by omega) (by omega)]; omega
  have g1 : (q : Int) < ((List.replicate (q + 2) (0 : Int)).length : Int) := by rw [hrep]; omega
  have g2 : ((q + 1 : Nat) : Int) < ((List.replicate (q + 2) (0 : Int)).length : Int) := by rw [hrep]; omega
  have g3 : ((q + 2 : Nat) : Int).toNat ≤ 70368744177664 := by rw [Int.toNat_natCast]; omega
  obtain ⟨r, e, p1, p2, p3, p4⟩ := trim_ex _ (by rw [List.length_set, List.length_set, hrep]; omega) W2
  rw [List.length_set, List.length_set, hrep] at p4
  have p5 : r.length ≤ 3 := by omega
  refine ⟨r, ?_, ?_, p2, p3, p5⟩
  · obtain ⟨w2, wq, w3, w4⟩ := wq2 hq
    unfold spec_l1Shl.f
    refine Ev.neg (by simp) ?_
    rw [t1, wq, show (([(a : Int)] : List Int).length : Int) = 1 from rfl, w2]
    refine Ev.pos (Int.natCast_nonneg _) (Ev.pos g3 ?_)
    rw [Int.toNat_natCast]
    refine Ev.step (f := fun k => spec_l1Shl.l0 k [(a : Int)] (n : Int) (((List.replicate (q + 2) (0 : Int)).set q ((x : Int) % 4294967296)).set (q + 1) ((x : Int) / 4294967296 % 4294967296)) 1) (fun k => ?_) (Ev.step (fun k => by rw [spec_l1Shl.l0, if_neg (by simp)]) (Ev.bind e (Ev.now r)))
    have er0 : rd (List.replicate (q + 2) (0 : Int)) (q : Int) = 0 := rd_rep _ _
    have er1 : rd ((List.replicate (q + 2) (0 : Int)).set q ((x : Int) % 4294967296)) ((q + 1 : Nat) : Int) = 0 := by rw [rd_set_ne (Nat.ne_of_lt (Nat.lt_succ_self q))]; exact rd_rep _ _
    have ea : rd ([(a : Int)]) 0 = (a : Int) := rfl
    rw [spec_l1Shl.l0, if_pos (by simp), if_pos (by decide), t2, if_pos us, t1, wq, w3, if_pos (Int.natCast_nonneg _), if_pos g1, er0, ea, es, or32_zero _ b1.1 b1.2, Option.bind_some, Int.toNat_natCast, w4, if_pos (Int.natCast_nonneg _), if_pos g2, er1, or32_zero _ b2.1 b2.2, Int.toNat_natCast, show wrap64 ((0 : Int) + 1) = 1 from wsucc (i := 0) (by decide)]
  · rw [p1, vl_set _ _ _ (by rw [List.length_set, hrep]; omega), vl_set _ _ _ (by rw [hrep]; omega), rd_set_ne (by omega), rd_rep, rd_rep, vl_rep]
    clear es t1 t2 us
    rcases hq with rfl | rfl
    · show 0 + 1 * ((x : Int) % 4294967296 - 0) + 4294967296 * 1 * ((x : Int) / 4294967296 % 4294967296 - 0) = ((x * 4294967296 ^ 0 : Nat) : Int)
      rw [Nat.pow_zero]; omega
    · show 0 + 4294967296 * 1 * ((x : Int) % 4294967296 - 0) + 4294967296 * (4294967296 * 1) * ((x : Int) / 4294967296 % 4294967296 - 0) = ((x * 4294967296 ^ 1 : Nat) : Int)
      rw [Nat.pow_one]; omega
/-- One word moved up. -/
theorem shl_ex (a n : Nat) (ha : 1 ≤ a ∧ a ≤ 1000) (hn : n ≤ 60) : ∃ r, Ev (fun k => spec_l1Shl.f k [(a : Int)] (n : Int)) r ∧ vl r = ((a * 2 ^ n : Nat) : Int) ∧ W32 r ∧ Tr r ∧ r.length ≤ 3 := by
  have hp := p31 (show n % 32 ≤ 31 by omega)
  have hx : a * 2 ^ (n % 32) ≤ 1000 * 2147483648 := Nat.mul_le_mul ha.2 hp
  have ev : a * 2 ^ n = a * 2 ^ (n % 32) * 4294967296 ^ (n / 32) := by
    have en : n = 32 * (n / 32) + n % 32 := by omega
    have e2 : 2 ^ n = 2 ^ (32 * (n / 32) + n % 32) := congrArg (2 ^ ·) en
    rw [e2, Nat.pow_add, Nat.pow_mul, show (2 : Nat) ^ 32 = 4294967296 by decide, Nat.mul_comm (4294967296 ^ (n / 32)), Nat.mul_assoc]
  rw [ev]
  refine shl_run a n (n / 32) (n % 32) (a * 2 ^ (n % 32)) (by omega) rfl rfl (by omega) (by omega) ?_
  have hs : n % 32 ≤ 31 := by omega
  generalize n % 32 = s at *
  rw [u64w (n := (a : Int)) (by omega) (by omega), u64w (n := (s : Int)) (by omega) (by omega)]
  have e : (a : Int) * 2 ^ (min s 64) = ((a * 2 ^ s : Nat) : Int) := by
    rw [show min s 64 = s by omega, Int.natCast_mul, Int.natCast_pow]; rfl
  unfold shl
  rw [Int.toNat_natCast, show IntKind.bits .u64 = 64 from rfl, e]
  clear e ev hp
  generalize a * 2 ^ s = x at *
  exact u64w (by omega) (by omega)

theorem shlu1 {n : Nat} (h : n ≤ 60) : shl .u64 1 (n : Int) = ((2 ^ n : Nat) : Int) := by
  have hp := p60 h
  have e : (1 : Int) * 2 ^ (min n 64) = ((2 ^ n : Nat) : Int) := by
    rw [show min n 64 = n by omega, Int.one_mul]; exact (Int.natCast_pow 2 n).symm
  unfold shl
  rw [Int.toNat_natCast, show IntKind.bits .u64 = 64 from rfl, e]
  clear e
  generalize 2 ^ n = P at *
  exact u64w (by omega) (by omega)
theorem mul_nat (a b : Nat) (ha : a < 18446744073709551616) (hb : b < 18446744073709551616) : bits_Mul64.f (a : Int) (b : Int) = some (((a * b / 18446744073709551616 : Nat) : Int), ((a * b % 18446744073709551616 : Nat) : Int)) := by
  rw [Mul64_eq _ _ (by omega) (by omega) (by omega) (by omega), ← Int.natCast_mul]
  rfl
theorem thr_S (n den : Nat) (hn : n ≤ 60) (hden : 1 ≤ den ∧ den ≤ 1000) (m : List Int) (wm : W32 m) (tm : Tr m) (lm : m.length ≤ 3) (t : Int) (wt : wrap64 (t + 1) = t + 1) :
    ∃ g : Int, (g > 0 ↔ ((wN n t * den : Nat) : Int) > vl m) ∧ ∀ (R : Int × Bool), Ev (fun k => if g > 0 then spec_Threshold.l0 k (n : Int) (den : Int) m (t + 1) else some (t, true)) R → Ev (fun k => spec_Threshold.l0 k (n : Int) (den : Int) m t) R := by
  have hw := Nat.le_trans (wN_le hn t) (p60 hn)
  have n0 : 0 ≤ ((wN n t : Nat) : Int) := Int.natCast_nonneg _
  have n1 : ((wN n t : Nat) : Int) < 18446744073709551616 := by clear wt; omega
  have d0 : 0 ≤ (den : Int) := Int.natCast_nonneg _
  have d1 : (den : Int) < 18446744073709551616 := by clear wt; omega
  obtain ⟨a, ea, va, wa, ta, la⟩ := l1Nat_ex ((wN n t : Nat) : Int) n0 n1
  obtain ⟨b, eb, vb, wb, tb, lb⟩ := l1Nat_ex (den : Int) d0 d1
  have la' : a.length ≤ 1000 := Nat.le_trans la (by decide)
  have lb' : b.length ≤ 1000 := Nat.le_trans lb (by decide)
  obtain ⟨c, ec, vc, wc, tc, lc⟩ := mul_ex a b wa wb la' lb'
  have lc' : c.length ≤ 1000000 := Nat.le_trans lc (by clear wt; omega)
  have lm' : m.length ≤ 1000000 := Nat.le_trans lm (by decide)
  obtain ⟨g, eg, hg⟩ := cmp_ex c m wc wm tc tm lc' lm'
  rw [vc, va, vb, ← Int.natCast_mul] at hg
  refine ⟨g, hg, fun R hR => ?_⟩
  have h1 : Ev (fun k => (spec_Ways.f k (n : Int) t).bind fun t168 => ((spec_l1Nat.f k (IntKind.u64.wrap (t168))).bind fun t169 => ((spec_l1Nat.f k (IntKind.u64.wrap (den : Int))).bind fun t172 => ((spec_l1Mul.f k t169 t172).bind fun t175 => ((spec_l1Cmp.f k t175 m).bind fun t178 => (if t178 > 0 then (spec_Threshold.l0 k (n : Int) (den : Int) m (wrap64 (t + 1))) else (some (t, true)))))))) R := by
    refine Ev.bind (a := ((wN n t : Nat) : Int)) (by rw [← waysM_nat hn]; exact sWays_ev _ _) ?_
    rw [u64w n0 n1]
    refine Ev.bind ea ?_
    rw [u64w d0 d1]
    refine Ev.bind eb (Ev.bind ec (Ev.bind eg ?_))
    rw [wt]; exact hR
  exact Ev.step (fun k => by rw [spec_Threshold.l0]) h1
theorem thr_I (n num den : Nat) (hn : n ≤ 60) (hnum : 1 ≤ num ∧ num ≤ 1000) (hden : 1 ≤ den ∧ den ≤ 1000) (t : Int) (ht : t ≤ (n : Int) + 1) (wt : wrap64 (t + 1) = t + 1) (wn : wrap64 ((n : Int) + 1) = (n : Int) + 1) (R : Int × Bool)
    (hR : Ev (fun k => if ((wN n t * den / 18446744073709551616 : Nat) : Int) < ((num * 2 ^ n / 18446744073709551616 : Nat) : Int) then some (t, true) else if ((wN n t * den / 18446744073709551616 : Nat) : Int) = ((num * 2 ^ n / 18446744073709551616 : Nat) : Int) then (if ((wN n t * den % 18446744073709551616 : Nat) : Int) ≤ ((num * 2 ^ n % 18446744073709551616 : Nat) : Int) then some (t, true) else impl_Threshold.l0 k (n : Int) (num : Int) (den : Int) (t + 1)) else impl_Threshold.l0 k (n : Int) (num : Int) (den : Int) (t + 1)) R) :
    Ev (fun k => impl_Threshold.l0 k (n : Int) (num : Int) (den : Int) t) R := by
  have hw := Nat.le_trans (wN_le hn t) (p60 hn)
  have hp := p60 hn
  have n0 : 0 ≤ ((wN n t : Nat) : Int) := Int.natCast_nonneg _
  have n1 : ((wN n t : Nat) : Int) < 18446744073709551616 := by clear wt wn hR; omega
  have d0 : 0 ≤ (den : Int) := Int.natCast_nonneg _
  have d1 : (den : Int) < 18446744073709551616 := by clear wt wn hR; omega
  have u0 : 0 ≤ (num : Int) := Int.natCast_nonneg _
  have u1 : (num : Int) < 18446744073709551616 := by clear wt wn hR; omega
  have m1 := mul_nat (wN n t) den (by clear wt wn hR; omega) (by clear wt wn hR; omega)
  have m2 := mul_nat num (2 ^ n) (by clear wt wn hR m1; omega) (by clear wt wn hR m1; omega)
  have h1 : Ev (fun k => (impl_Ways.f k (n : Int) t).bind fun t188 => ((bits_Mul64.f (IntKind.u64.wrap (t188)) (IntKind.u64.wrap (den : Int))).bind fun bt189 => (if 0 ≤ (n : Int) then ((bits_Mul64.f (IntKind.u64.wrap (num : Int)) (shl .u64 1 (n : Int))).bind fun bt191 => (if bt189.1 < bt191.1 then (some (t, true)) else (if bt189.1 = bt191.1 then (if bt189.2 ≤ bt191.2 then (some (t, true)) else (impl_Threshold.l0 k (n : Int) (num : Int) (den : Int) (wrap64 (t + 1)))) else (impl_Threshold.l0 k (n : Int) (num : Int) (den : Int) (wrap64 (t + 1)))))) else (none)))) R := by
    refine Ev.bind (a := ((wN n t : Nat) : Int)) (by rw [← waysM_nat hn]; exact iWays_ev _ _) ?_
    rw [u64w n0 n1, u64w d0 d1, u64w u0 u1, shlu1 hn, wt]
    refine Ev.bind0 m1 (Ev.pos (Int.natCast_nonneg n) (Ev.bind0 m2 ?_))
    exact hR
  exact Ev.step (fun k => by rw [impl_Threshold.l0, wn, if_pos ht]) h1
/-- What one more threshold tells. -/
theorem thr_step (n num den : Nat) (hn : n ≤ 60) (hnum : 1 ≤ num ∧ num ≤ 1000) (hden : 1 ≤ den ∧ den ≤ 1000) (m : List Int) (hm : vl m = ((num * 2 ^ n : Nat) : Int)) (wm : W32 m) (tm : Tr m) (lm : m.length ≤ 3) (t : Int) (ht : -(n : Int) ≤ t ∧ t ≤ (n : Int) + 1) :
    (wN n t * den ≤ num * 2 ^ n → Ev (fun k => spec_Threshold.l0 k (n : Int) (den : Int) m t) (t, true) ∧ Ev (fun k => impl_Threshold.l0 k (n : Int) (num : Int) (den : Int) t) (t, true)) ∧
    (¬ wN n t * den ≤ num * 2 ^ n → ∀ r, Ev (fun k => spec_Threshold.l0 k (n : Int) (den : Int) m (t + 1)) r → Ev (fun k => impl_Threshold.l0 k (n : Int) (num : Int) (den : Int) (t + 1)) r → Ev (fun k => spec_Threshold.l0 k (n : Int) (den : Int) m t) r ∧ Ev (fun k => impl_Threshold.l0 k (n : Int) (num : Int) (den : Int) t) r) := by
  obtain ⟨g, hg, hS⟩ := thr_S n den hn hden m wm tm lm t (w64 (by omega) (by omega))
  have hI := thr_I n num den hn hnum hden t ht.2 (w64 (by omega) (by omega)) (w64 (by omega) (by omega))
  rw [hm] at hg
  generalize wN n t * den = p at *
  generalize num * 2 ^ n = q at *
  clear hm
  constructor
  · intro h
    refine ⟨hS _ (Ev.neg (fun hc => absurd (hg.1 hc) (by omega)) (Ev.now _)), hI _ ?_⟩
    by_cases h1 : ((p / 18446744073709551616 : Nat) : Int) < ((q / 18446744073709551616 : Nat) : Int)
    · exact Ev.pos h1 (Ev.now _)
    · exact Ev.neg h1 (Ev.pos (by omega) (Ev.pos (by omega) (Ev.now _)))
  · intro h r h1 h2
    refine ⟨hS _ (Ev.pos (hg.2 (by omega)) h1), hI _ (Ev.neg (by omega) ?_)⟩
    by_cases h3 : ((p / 18446744073709551616 : Nat) : Int) = ((q / 18446744073709551616 : Nat) : Int)
    · exact Ev.pos h3 (Ev.neg (by omega) h2)
    · exact Ev.neg h3 h2
theorem thr_ex (n num den : Nat) (hn : n ≤ 60) (hnum : 1 ≤ num ∧ num ≤ 1000) (hden : 1 ≤ den ∧ den ≤ 1000) (m : List Int) (hm : vl m = ((num * 2 ^ n : Nat) : Int)) (wm : W32 m) (tm : Tr m) (lm : m.length ≤ 3) : ∀ (d : Nat) (t : Int), t + (d : Int) = (n : Int) + 1 → -(n : Int) ≤ t → (t = -(n : Int) ∨ ¬ wN n (t - 1) * den ≤ num * 2 ^ n) →
    ∃ r : Int, -(n : Int) ≤ r ∧ r ≤ (n : Int) + 1 ∧ wN n r * den ≤ num * 2 ^ n ∧ (r = -(n : Int) ∨ ¬ wN n (r - 1) * den ≤ num * 2 ^ n) ∧ Ev (fun k => spec_Threshold.l0 k (n : Int) (den : Int) m t) (r, true) ∧ Ev (fun k => impl_Threshold.l0 k (n : Int) (num : Int) (den : Int) t) (r, true) := by
  intro d
  induction d with
  | zero =>
    intro t hd ht hp
    obtain ⟨h1, _⟩ := thr_step n num den hn hnum hden m hm wm tm lm t (by omega)
    have h0 : wN n t * den ≤ num * 2 ^ n := by rw [wN_none n (by omega), Nat.zero_mul]; exact Nat.zero_le _
    exact ⟨t, ht, by omega, h0, hp, h1 h0⟩
  | succ d ih =>
    intro t hd ht hp
    obtain ⟨h1, h2⟩ := thr_step n num den hn hnum hden m hm wm tm lm t (by omega)
    by_cases h0 : wN n t * den ≤ num * 2 ^ n
    · exact ⟨t, ht, by omega, h0, hp, h1 h0⟩
    · obtain ⟨r, q1, q2, q3, q4, q5, q6⟩ := ih (t + 1) (by omega) (by omega) (.inr (by rw [show t + 1 - 1 = t by omega]; exact h0))
      exact ⟨r, q1, q2, q3, q4, h2 h0 _ q5 q6⟩
/-- Both thresholds are one. -/
theorem Threshold_in (n num den : Nat) (hn : n ≤ 60) (hnum : 1 ≤ num ∧ num ≤ 1000) (hden : 1 ≤ den ∧ den ≤ 1000) :
    ∃ r : Int, -(n : Int) ≤ r ∧ r ≤ (n : Int) + 1 ∧ wN n r * den ≤ num * 2 ^ n ∧ (r = -(n : Int) ∨ ¬ wN n (r - 1) * den ≤ num * 2 ^ n) ∧ Ev (fun k => spec_Threshold.f k (n : Int) (num : Int) (den : Int)) (r, true) ∧ Ev (fun k => impl_Threshold.f k (n : Int) (num : Int) (den : Int)) (r, true) := by
  obtain ⟨m, em, hm, wm, tm, lm⟩ := shl_ex num n hnum hn
  have en : Ev (fun k => spec_l1Nat.f k (IntKind.u64.wrap (num : Int))) [(num : Int)] := by
    rw [u64w (n := (num : Int)) (by omega) (by omega)]
    have e1 : (num : Int) % 4294967296 = (num : Int) := by omega
    have e2 : (num : Int) / 4294967296 % 4294967296 = 0 := by omega
    have h1 : Ev (fun k => spec_l1Trim.l0 k [(num : Int), 0]) [(num : Int)] := by
      refine Ev.step (f := fun k => spec_l1Trim.l0 k [(num : Int)]) (fun k => ?_) (Ev.fin (fun k => ?_))
      · have h2 : wrap64 ((([(num : Int), 0] : List Int).length : Int) - 1) = 1 := by
          rw [show ((([(num : Int), 0] : List Int).length : Int) - 1) = 1 from rfl]; exact w64 (by omega) (by omega)
        have h3 : rd [(num : Int), 0] 1 = 0 := rfl
        rw [spec_l1Trim.l0, if_pos (by simp), h2, if_pos (by simp), if_pos (by simp), h3, if_pos rfl, if_pos (by simp)]
        rfl
      · have h2 : wrap64 ((([(num : Int)] : List Int).length : Int) - 1) = 0 := by
          rw [show ((([(num : Int)] : List Int).length : Int) - 1) = 0 from rfl]; exact w64 (by omega) (by omega)
        have h3 : rd [(num : Int)] 0 = (num : Int) := rfl
        rw [spec_l1Trim.l0, if_pos (by simp), h2, if_pos (by simp), if_pos (by simp), h3, if_neg (by omega)]
    unfold spec_l1Nat.f spec_l1Trim.f
    rw [e1, e2]
    exact Ev.bind h1 (Ev.now _)
  have wn : wrap64 (-(n : Int)) = -(n : Int) := w64 (by omega) (by omega)
  obtain ⟨r, q1, q2, q3, q4, q5, q6⟩ := thr_ex n num den hn hnum hden m hm wm tm lm (2 * n + 1) (-(n : Int)) (by omega) (by omega) (.inl rfl)
  refine ⟨r, q1, q2, q3, q4, ?_, ?_⟩
  · unfold spec_Threshold.f
    refine Ev.bind0 (l1In_eq _ _ _) (Ev.pos (by rw [decide_eq_true_eq]; omega) (Ev.bind0 (l1In_eq _ _ _) (Ev.pos (by rw [decide_eq_true_eq]; omega) (Ev.bind0 (l1In_eq _ _ _) ?_))))
    rw [decide_eq_true (by omega)]
    have h1 : Ev (fun k => (spec_l1Nat.f k (IntKind.u64.wrap (num : Int))).bind fun t162 => ((spec_l1Shl.f k t162 (n : Int)).bind fun t165 => (spec_Threshold.l0 k (n : Int) (den : Int) t165 (wrap64 (-(n : Int)))))) (r, true) := by
      refine Ev.bind en (Ev.bind em ?_)
      rw [wn]; exact q5
    exact Ev.step (fun k => by rw [spec_Threshold.j0]; rfl) h1
  · unfold impl_Threshold.f
    refine Ev.neg (by omega) (Ev.neg (by omega) (Ev.neg (by omega) (Ev.neg (by omega) (Ev.neg (by omega) ?_))))
    rw [decide_eq_false (show ¬ (den : Int) > 1000 by omega)]
    refine Ev.step (fun k => ?_) q6
    rw [impl_Threshold.j0, if_neg (by decide), wn]
theorem Threshold_out (n num den : Int) (h : ¬ (0 ≤ n ∧ n ≤ 60 ∧ 1 ≤ num ∧ num ≤ 1000 ∧ 1 ≤ den ∧ den ≤ 1000)) : Ev (fun k => spec_Threshold.f k n num den) (0, false) ∧ Ev (fun k => impl_Threshold.f k n num den) (0, false) := by
  have js : Ev (fun k => spec_Threshold.j0 k n num den true) (0, false) := Ev.fin (fun k => by rw [spec_Threshold.j0, if_pos rfl])
  have ji : Ev (fun k => impl_Threshold.j0 k n num den true) (0, false) := Ev.fin (fun k => by rw [impl_Threshold.j0, if_pos rfl])
  constructor
  · unfold spec_Threshold.f
    refine Ev.bind0 (l1In_eq _ _ _) ?_
    by_cases h1 : 0 ≤ n ∧ n ≤ 60
    · refine Ev.pos (decide_eq_true h1) (Ev.bind0 (l1In_eq _ _ _) ?_)
      by_cases h2 : 1 ≤ num ∧ num ≤ 1000
      · refine Ev.pos (decide_eq_true h2) (Ev.bind0 (l1In_eq _ _ _) ?_)
        rw [decide_eq_false (by omega)]
        exact js
      · exact Ev.neg (by rw [decide_eq_true_eq]; exact h2) js
    · exact Ev.neg (by rw [decide_eq_true_eq]; exact h1) js
  · unfold impl_Threshold.f
    by_cases h1 : n < 0
    · exact Ev.pos h1 ji
    refine Ev.neg h1 ?_
    by_cases h2 : n > 60
    · exact Ev.pos h2 ji
    refine Ev.neg h2 ?_
    by_cases h3 : num < 1
    · exact Ev.pos h3 ji
    refine Ev.neg h3 ?_
    by_cases h4 : num > 1000
    · exact Ev.pos h4 ji
    refine Ev.neg h4 ?_
    by_cases h5 : den < 1
    · exact Ev.pos h5 ji
    refine Ev.neg h5 ?_
    rw [decide_eq_true (by omega)]; exact ji

theorem DrawThreshold_ex (l : List Int) (hl : l.length ≤ 1048576) (hw : Bytes l) : ∃ (a b c : Int), Ev (fun k => spec_DrawThreshold.f k l) (a, b, c) := by
  obtain ⟨h, c0, e0⟩ := l1New_ex l hl hw
  obtain ⟨x, i1, h1, hx, c1, e1⟩ := l1PickInt_ex l 0 h [0, 1, 2, 5, 8, 20, 33, 60, 61, (-1)] (by decide) c0
  obtain ⟨y, i2, h2, hy, c2, e2⟩ := l1PickInt_ex l i1 h1 [1, 2, 5, 100, 1000, 0, 1001] (by decide) c1
  obtain ⟨z, i3, h3, hz, c3, e3⟩ := l1PickInt_ex l i2 h2 [1, 10, 100, 1000, 3, 7, 0, 1001] (by decide) c2
  exact ⟨x, y, z, Ev.bind e0 (Ev.bind0 e1 (Ev.bind0 e2 (Ev.bind0 e3 (Ev.now _))))⟩
theorem shli {n a : Nat} (h : n ≤ 40) (ha : a ≤ 1000) : shl .i64 (a : Int) (n : Int) = ((a * 2 ^ n : Nat) : Int) := by
  have h1 : 2 ^ n ≤ 2 ^ 40 := Nat.pow_le_pow_right (by omega) h
  have h2 : (2 : Nat) ^ 40 = 1099511627776 := by decide
  have hx : a * 2 ^ n ≤ 1000 * 1099511627776 := Nat.mul_le_mul ha (by omega)
  have e : (a : Int) * 2 ^ (min n 64) = ((a * 2 ^ n : Nat) : Int) := by
    rw [show min n 64 = n by omega, Int.natCast_mul, Int.natCast_pow]; rfl
  unfold shl
  rw [Int.toNat_natCast, show IntKind.bits .i64 = 64 from rfl, e]
  clear e h1
  generalize a * 2 ^ n = P at *
  rw [IntKind.wrap_i64]; omega
theorem Threshold_j1 (n num den : Nat) (r : Int) (hn : n ≤ 60) (hnum : num ≤ 1000) (hden : den ≤ 1000) (q1 : -(n : Int) ≤ r) (q2 : r ≤ (n : Int) + 1) (q3 : wN n r * den ≤ num * 2 ^ n) (q4 : r = -(n : Int) ∨ ¬ wN n (r - 1) * den ≤ num * 2 ^ n) : Ev (fun k => laws_FnThreshold.j1 k (n : Int) (num : Int) (den : Int) r (decide ((n : Int) > 40))) true := by
  by_cases h40 : (n : Int) > 40
  · rw [decide_eq_true h40]
    exact Ev.fin (fun k => by rw [laws_FnThreshold.j1, if_pos rfl])
  rw [decide_eq_false h40]
  have hp : 2 ^ n ≤ 1099511627776 := by
    have h1 : 2 ^ n ≤ 2 ^ 40 := Nat.pow_le_pow_right (by omega) (show n ≤ 40 by omega)
    have h2 : (2 : Nat) ^ 40 = 1099511627776 := by decide
    omega
  have un : IntKind.u64.wrap (n : Int) = (n : Int) := u64w (by omega) (by omega)
  have wn : wrap64 (-(n : Int)) = -(n : Int) := w64 (by omega) (by omega)
  have wr1 : wrap64 (r - 1) = r - 1 := w64 (by omega) (by omega)
  have es := shli (n := n) (a := num) (by omega) hnum
  have pr : ∀ t, wrap64 (((wN n t : Nat) : Int) * (den : Int)) = ((wN n t * den : Nat) : Int) := by
    intro t
    have h1 := Nat.mul_le_mul (Nat.le_trans (wN_le hn t) hp) hden
    rw [← Int.natCast_mul]
    exact w64 (by omega) (by omega)
  have iw : ∀ t, Ev (fun k => impl_Ways.f k (n : Int) t) ((wN n t : Nat) : Int) := by intro t; rw [← waysM_nat hn]; exact iWays_ev _ _
  have h1 : Ev (fun k => if 0 ≤ (IntKind.u64.wrap (n : Int)) then ((impl_Ways.f k (n : Int) r).bind fun t249 => (if (wrap64 (t249 * (den : Int))) ≤ (shl .i64 (num : Int) (IntKind.u64.wrap (n : Int))) then (if r = (wrap64 (-(n : Int))) then (some true) else ((impl_Ways.f k (n : Int) (wrap64 (r - 1))).bind fun t250 => (some (decide ((wrap64 (t250 * (den : Int))) > (shl .i64 (num : Int) (IntKind.u64.wrap (n : Int)))))))) else (some false))) else (none)) true := by
    rw [un, wn, wr1, es]
    refine Ev.pos (by omega) (Ev.bind (iw r) ?_)
    rw [pr]
    refine Ev.pos (by omega) ?_
    by_cases h0 : r = -(n : Int)
    · exact Ev.pos h0 (Ev.now true)
    · refine Ev.neg h0 (Ev.bind (iw (r - 1)) ?_)
      rw [pr]
      have h2 := q4.resolve_left h0
      exact Ev.cast (Ev.now _) (decide_eq_true (by omega))
  exact Ev.step (fun k => by rw [laws_FnThreshold.j1, if_neg (by decide)]) h1
theorem small_ev : Ev (fun k => impl_Threshold.f k 2 1 4) (1, true) := Ev.of (impl_Threshold.mono _ _ _) (k := 40) (by decide +kernel)
theorem two_ev : Ev (fun k => impl_Ways.f k 2 2) 1 := Ev.of (impl_Ways.mono _ _) (k := 40) (by decide +kernel)
theorem FnThreshold : laws_FnThreshold.Pure := by
  intro l hl hl8 hb
  refine Ev.rounds ?_
  unfold laws_FnThreshold.f
  refine Ev.bind0 rfl ?_
  by_cases hg : (l.length : Int) > 1048576
  · exact Ev.pos (decide_eq_true hg) (Ev.now true)
  refine Ev.neg (by rw [decide_eq_true_eq]; exact hg) ?_
  obtain ⟨n, num, den, e0⟩ := DrawThreshold_ex l (by omega) hb
  refine Ev.bind e0 ?_
  by_cases h : 0 ≤ n ∧ n ≤ 60 ∧ 1 ≤ num ∧ num ≤ 1000 ∧ 1 ≤ den ∧ den ≤ 1000
  · obtain ⟨n, rfl⟩ : ∃ m : Nat, n = m := ⟨n.toNat, by omega⟩
    obtain ⟨num, rfl⟩ : ∃ m : Nat, num = m := ⟨num.toNat, by omega⟩
    obtain ⟨den, rfl⟩ : ∃ m : Nat, den = m := ⟨den.toNat, by omega⟩
    obtain ⟨r, q1, q2, q3, q4, h1, h2⟩ := Threshold_in n num den (by omega) (by omega) (by omega)
    refine Ev.bind h2 (Ev.bind h1 (Ev.neg (by simp) (Ev.bind small_ev (Ev.pos rfl (Ev.pos rfl (Ev.bind two_ev ?_))))))
    exact Ev.step (fun k => by rw [laws_FnThreshold.j0, if_neg (by decide), if_pos rfl]) (Threshold_j1 n num den r (by omega) (by omega) (by omega) q1 q2 q3 q4)
  · obtain ⟨h1, h2⟩ := Threshold_out n num den h
    refine Ev.bind h2 (Ev.bind h1 (Ev.neg (by simp) (Ev.bind small_ev (Ev.pos rfl (Ev.pos rfl (Ev.bind two_ev ?_))))))
    refine Ev.step (f := fun k => laws_FnThreshold.j1 k n num den 0 true) (fun k => by rw [laws_FnThreshold.j0, if_neg (by decide), if_neg (by decide)]) (Ev.fin (fun k => by rw [laws_FnThreshold.j1, if_pos rfl]))

end Go.Proofs.Ytonmdhaollhekaa.Pure
