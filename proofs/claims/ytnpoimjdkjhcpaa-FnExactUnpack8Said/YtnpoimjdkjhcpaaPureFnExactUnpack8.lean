/- Unpack8 tells what the reference tells, leaves its arguments alone and answers new memory, for all arguments; no condition. -/
import Derived.Test.YtnpoimjdkjhcpaaQFnExactUnpack8x3
import Derived.Test.YtnpoimjdkjhcpaaCom
import Derived.Test.YtnpoimjdkjhcpaaMark
set_option linter.unusedVariables false
set_option linter.unusedSimpArgs false
namespace Go.Proofs.Ytnpoimjdkjhcpaa.Pure
open Go.RowKit Go.Proofs.Ytnpoimjdkjhcpaa.PFnExactUnpack8 Go.Proofs.YtnpoimjdkjhcpaaW.PrintWords Go.Proofs.YtnpoimjdkjhcpaaW.PrintLast Go.Proofs.Ytnpoimjdkjhcpaa.Com Go.Proofs.Ytnpoimjdkjhcpaa.Mark

theorem l1In_eq (a b c : Int) : spec_l1In.f a b c = some (decide (b ≤ a ∧ a ≤ c)) := by
  unfold spec_l1In.f
  by_cases h : b ≤ a
  · rw [if_pos h]; simp [h]
  · rw [if_neg h]; simp [h]

theorem ub_tab : ((List.range 256).all fun x => (List.range 8).all fun s => decide (wrap64 (Go.bits .and .u8 (shr .u8 (x : Int) (s : Int)) 1) = ((x / 2 ^ s % 2 : Nat) : Int)) && decide (Int.tmod (wrap64 (shr .u8 (x : Int) (s : Int))) 2 = ((x / 2 ^ s % 2 : Nat) : Int))) = true := by decide +kernel
theorem ub_at {x s : Nat} (hx : x < 256) (hs : s < 8) : wrap64 (Go.bits .and .u8 (shr .u8 (x : Int) (s : Int)) 1) = ((x / 2 ^ s % 2 : Nat) : Int) ∧ Int.tmod (wrap64 (shr .u8 (x : Int) (s : Int))) 2 = ((x / 2 ^ s % 2 : Nat) : Int) := by
  have h := all2 (fun x s => decide (wrap64 (Go.bits .and .u8 (shr .u8 (x : Int) (s : Int)) 1) = ((x / 2 ^ s % 2 : Nat) : Int)) && decide (Int.tmod (wrap64 (shr .u8 (x : Int) (s : Int))) 2 = ((x / 2 ^ s % 2 : Nat) : Int))) ub_tab hx hs
  rw [Bool.and_eq_true] at h
  exact ⟨of_decide_eq_true h.1, of_decide_eq_true h.2⟩
/-- The j-th bit of bytes. -/
def ubit (b : List Int) (j : Nat) : Nat := (rd b ((j / 8 : Nat) : Int)).toNat / 2 ^ (7 - j % 8) % 2
def ubits (b : List Int) : Nat → List Int
  | 0 => []
  | m + 1 => ubits b m ++ [((ubit b m : Nat) : Int)]
theorem ubits_len (b : List Int) : ∀ m, (ubits b m).length = m
  | 0 => rfl
  | m + 1 => by show (ubits b m ++ [_]).length = m + 1; rw [List.length_append, ubits_len b m]; rfl
theorem ubits_take (b : List Int) : ∀ {m n : Nat}, n ≤ m → (ubits b m).take n = ubits b n
  | 0, n, h => by rw [Nat.le_zero.1 h]; rfl
  | m + 1, n, h => by
    have hl := ubits_len b m
    by_cases e : n = m + 1
    · subst e; exact List.take_of_length_le (by rw [ubits_len]; exact Nat.le_refl _)
    · show (ubits b m ++ [_]).take n = _
      rw [List.take_append_of_le_length (by omega), ubits_take b (m := m) (by omega)]
theorem rd_ubits (b : List Int) : ∀ {m j : Nat}, j < m → rd (ubits b m) (j : Int) = ((ubit b j : Nat) : Int)
  | m + 1, j, h => by
    have hl := ubits_len b m
    unfold rd
    rw [Int.toNat_natCast]
    show (ubits b m ++ [_]).getD j 0 = _
    rw [List.getD_eq_getElem?_getD]
    by_cases e : j < m
    · rw [List.getElem?_append_left (by omega), ← List.getD_eq_getElem?_getD]
      have := rd_ubits b (m := m) (j := j) e
      unfold rd at this
      rw [Int.toNat_natCast] at this
      exact this
    · obtain rfl : j = m := by omega
      rw [List.getElem?_append_right (by omega), hl, Nat.sub_self]; rfl
/-- Is one of the d bits from i on 1? -/
def uany (b : List Int) : Nat → Nat → Bool
  | 0, _ => false
  | d + 1, i => ubit b i == 1 || uany b d (i + 1)
theorem ubyte {b : List Int} (hb : Bytes b) {i : Nat} (hi : i < b.length) : ∃ x : Nat, x < 256 ∧ rd b (i : Int) = (x : Int) := by
  have h := wfb (hb _ (rd_mem hi))
  exact ⟨(rd b (i : Int)).toNat, by omega, by omega⟩
theorem unpack_l1 (b : List Int) (hb : Bytes b) (hl : b.length ≤ 128) (i : Nat) (hi : i < b.length) (R : List Int) (K : Ev (fun k => impl_unpack8.l0 k (ubits b (8 * (i + 1))) b (b.length : Int) ((i + 1 : Nat) : Int)) R) :
    ∀ (d t : Nat), t + d = 8 → Ev (fun k => impl_unpack8.l1 k (ubits b (8 * i + t)) (rd b (i : Int)) (7 - (t : Int)) b (b.length : Int) (i : Int)) R := by
  obtain ⟨x, hx, ex⟩ := ubyte hb hi
  intro d
  induction d with
  | zero =>
    intro t hd
    obtain rfl : t = 8 := by omega
    refine Ev.step (fun k => ?_) K
    rw [impl_unpack8.l1, if_neg (by omega), wsucc (by omega)]
    rfl
  | succ d ih =>
    intro t hd
    have e1 : (7 : Int) - (t : Int) = ((7 - t : Nat) : Int) := by omega
    have hu := (ub_at hx (show 7 - t < 8 by omega)).1
    have eb : ubit b (8 * i + t) = x / 2 ^ (7 - t) % 2 := by
      unfold ubit
      rw [show (8 * i + t) / 8 = i by omega, show (8 * i + t) % 8 = t by omega, ex, Int.toNat_natCast]
    have hlen := ubits_len b (8 * i + t)
    refine Ev.step (fun k => ?_) (ih (t + 1) (by omega))
    rw [impl_unpack8.l1, if_pos (by omega), if_pos (by omega), if_pos (by omega), ex, e1, hu, ← eb]
    show impl_unpack8.l1 k (ubits b (8 * i + t + 1)) (x : Int) (wrap64 (((7 - t : Nat) : Int) - 1)) b (b.length : Int) (i : Int) = _
    rw [show wrap64 (((7 - t : Nat) : Int) - 1) = 7 - ((t + 1 : Nat) : Int) by rw [w64 (by omega) (by omega)]; omega]
    rfl
theorem unpack_l0 (b : List Int) (hb : Bytes b) (hl : b.length ≤ 128) : ∀ (d i : Nat), i + d = b.length → Ev (fun k => impl_unpack8.l0 k (ubits b (8 * i)) b (b.length : Int) (i : Int)) (ubits b (8 * b.length)) := by
  intro d
  induction d with
  | zero =>
    intro i hd
    obtain rfl : i = b.length := by omega
    exact Ev.fin (fun k => by rw [impl_unpack8.l0, if_neg (by omega)])
  | succ d ih =>
    intro i hd
    have h1 := unpack_l1 b hb hl i (by omega) _ (ih (i + 1) (by omega)) 8 0 (by omega)
    exact Ev.step (f := fun k => impl_unpack8.l1 k (ubits b (8 * i + 0)) (rd b (i : Int)) (7 - ((0 : Nat) : Int)) b (b.length : Int) (i : Int)) (fun k => by rw [impl_unpack8.l0, if_pos (by omega), if_pos (by omega), if_pos (by omega)]; rfl) h1
def unpackR (b : List Int) (n : Nat) : List Int × Bool := if uany b (8 * b.length - n) n = true then ([], false) else (ubits b n, true)
theorem iUnpack_l0 (b : List Int) (hl : b.length ≤ 128) (n : Nat) (hn : n ≤ 8 * b.length) : ∀ (d j : Nat), n + j + d = 8 * b.length →
    Ev (fun k => impl_Unpack8.l0 k (n : Int) (ubits b (8 * b.length)) ((ubits b (8 * b.length)).drop n) ((((ubits b (8 * b.length)).drop n).length : Nat) : Int) (j : Int)) (if uany b d (n + j) = true then ([], false) else (ubits b n, true)) := by
  have hlen := ubits_len b (8 * b.length)
  have hdl : ((ubits b (8 * b.length)).drop n).length = 8 * b.length - n := by rw [List.length_drop, hlen]
  intro d
  induction d with
  | zero =>
    intro j hd
    refine Ev.fin (fun k => ?_)
    rw [hdl, impl_Unpack8.l0, if_neg (by omega), if_pos (by omega), if_pos (by omega), Int.toNat_natCast, ubits_take b hn]
    rfl
  | succ d ih =>
    intro j hd
    have er : rd ((ubits b (8 * b.length)).drop n) (j : Int) = ((ubit b (n + j) : Nat) : Int) := by
      rw [← rd_ubits b (show n + j < 8 * b.length by omega)]
      unfold rd
      rw [Int.toNat_natCast, Int.toNat_natCast, List.getD_eq_getElem?_getD, List.getD_eq_getElem?_getD, List.getElem?_drop]
    have hn2 := ih (j + 1) (by omega)
    rw [hdl] at hn2 ⊢
    unfold uany
    by_cases h1 : ubit b (n + j) = 1
    · rw [h1, show ((1 : Nat) == 1) = true from rfl, Bool.true_or, if_pos rfl]
      refine Ev.fin (fun k => ?_)
      rw [impl_Unpack8.l0, if_pos (by omega), if_pos (by omega), if_pos (by rw [hdl]; omega), er, h1, if_pos (show ((1 : Nat) : Int) = 1 from rfl)]
    · rw [beq_eq_false_iff_ne.mpr h1, Bool.false_or]
      refine Ev.step (fun k => ?_) hn2
      rw [impl_Unpack8.l0, if_pos (by omega), if_pos (by omega), if_pos (by rw [hdl]; omega), er, if_neg (by omega), wsucc (by omega)]
theorem sUnpack_step (b : List Int) (hb : Bytes b) (hl : b.length ≤ 128) (n i : Nat) (hi : i < 8 * b.length) (acc : List Int) (ha : acc.length ≤ 2000) (R : List Int × Bool)
    (K : Ev (fun k => if ((if i ≥ n then ubit b i == 1 else false) = true) then some (([] : List Int), false) else if i < n then spec_Unpack8.l0 k b (n : Int) (acc ++ [((ubit b i : Nat) : Int)]) ((i + 1 : Nat) : Int) else spec_Unpack8.l0 k b (n : Int) acc ((i + 1 : Nat) : Int)) R) : Ev (fun k => spec_Unpack8.l0 k b (n : Int) acc (i : Int)) R := by
  have e8 : wrap64 (Int.tdiv (i : Int) 8) = ((i / 8 : Nat) : Int) := by
    rw [show Int.tdiv (i : Int) 8 = ((i / 8 : Nat) : Int) from rfl, w64 (by omega) (by omega)]
  have e7 : IntKind.u64.wrap (wrap64 (7 - Int.tmod (i : Int) 8)) = ((7 - i % 8 : Nat) : Int) := by
    rw [show Int.tmod (i : Int) 8 = ((i % 8 : Nat) : Int) from rfl, w64 (by omega) (by omega), u64w (by omega) (by omega)]; omega
  have el : wrap64 (8 * (b.length : Int)) = ((8 * b.length : Nat) : Int) := by rw [w64 (by omega) (by omega)]; omega
  have g1 : (i : Int) < ((8 * b.length : Nat) : Int) := by omega
  have g2 : ((i / 8 : Nat) : Int) < (b.length : Int) := by omega
  have g3 : i / 8 < b.length := by omega
  have g4 : 7 - i % 8 < 8 := by omega
  have gw := wsucc (i := i) (by omega)
  obtain ⟨x, hx, ex⟩ := ubyte hb g3
  have hu := (ub_at hx g4).2
  have eb : ubit b i = x / 2 ^ (7 - i % 8) % 2 := by
    unfold ubit
    rw [ex, Int.toNat_natCast]
  rw [← eb] at hu
  clear eb
  have hcond : ((((ubit b i : Nat) : Int)) == 1) = (ubit b i == 1) := by rw [Bool.eq_iff_iff]; simp; omega
  have j2 : ∀ c : Bool, Ev (fun k => if c = true then some (([] : List Int), false) else if i < n then spec_Unpack8.l0 k b (n : Int) (acc ++ [((ubit b i : Nat) : Int)]) ((i + 1 : Nat) : Int) else spec_Unpack8.l0 k b (n : Int) acc ((i + 1 : Nat) : Int)) R → Ev (fun k => spec_Unpack8.j2 k b (n : Int) acc (i : Int) ((ubit b i : Nat) : Int) c) R := by
    intro c hc
    refine Ev.step (fun k => ?_) hc
    rw [spec_Unpack8.j2]
    by_cases h1 : c = true
    · rw [if_pos h1, if_pos h1]
    · rw [if_neg h1, if_neg h1]
      by_cases h2 : i < n
      · rw [if_pos h2, if_pos (Int.ofNat_lt.2 h2), if_pos (by omega), gw]
      · rw [if_neg h2, if_neg (fun h => h2 (Int.ofNat_lt.1 h)), gw]
  by_cases hin : i ≥ n
  · rw [if_pos hin] at K
    refine Ev.step (fun k => ?_) (j2 _ K)
    rw [spec_Unpack8.l0, el, if_pos g1, e8, if_pos (Int.natCast_nonneg _), if_pos g2, e7, if_pos (Int.natCast_nonneg _), if_pos (Int.ofNat_le.2 hin), ex, hu, hcond]
  · rw [if_neg hin] at K
    refine Ev.step (fun k => ?_) (j2 _ K)
    rw [spec_Unpack8.l0, el, if_pos g1, e8, if_pos (Int.natCast_nonneg _), if_pos g2, e7, if_pos (Int.natCast_nonneg _), if_neg (fun h => hin (Int.ofNat_le.1 h)), ex, hu]
theorem sUnpack_tail (b : List Int) (hb : Bytes b) (hl : b.length ≤ 128) (n : Nat) (hn : n ≤ 8 * b.length) : ∀ (d i : Nat), i + d = 8 * b.length → n ≤ i → Ev (fun k => spec_Unpack8.l0 k b (n : Int) (ubits b n) (i : Int)) (if uany b d i = true then ([], false) else (ubits b n, true)) := by
  have hlen := ubits_len b n
  intro d
  induction d with
  | zero =>
    intro i hd hi
    refine Ev.fin (fun k => ?_)
    have el : wrap64 (8 * (b.length : Int)) = ((8 * b.length : Nat) : Int) := by rw [w64 (by omega) (by omega)]; omega
    rw [spec_Unpack8.l0, el, if_neg (by omega)]
    rfl
  | succ d ih =>
    intro i hd hi
    refine sUnpack_step b hb hl n i (by omega) _ (by omega) _ ?_
    rw [if_pos (show i ≥ n from hi)]
    unfold uany
    by_cases h1 : (ubit b i == 1) = true
    · rw [h1, Bool.true_or, if_pos rfl]
      exact Ev.pos rfl (Ev.now _)
    · rw [Bool.eq_false_iff.mpr h1, Bool.false_or]
      exact Ev.neg (by decide) (Ev.neg (by omega) (ih (i + 1) (by omega) (by omega)))
theorem sUnpack_head (b : List Int) (hb : Bytes b) (hl : b.length ≤ 128) (n : Nat) (hn : n ≤ 8 * b.length) : ∀ (d i : Nat), i + d = n → Ev (fun k => spec_Unpack8.l0 k b (n : Int) (ubits b i) (i : Int)) (unpackR b n) := by
  intro d
  induction d with
  | zero =>
    intro i hd
    obtain rfl : i = n := by omega
    exact sUnpack_tail b hb hl i hn (8 * b.length - i) i (by omega) (Nat.le_refl _)
  | succ d ih =>
    intro i hd
    have hlen := ubits_len b i
    refine sUnpack_step b hb hl n i (by omega) _ (by omega) _ ?_
    rw [if_neg (show ¬ i ≥ n by omega)]
    exact Ev.neg (by decide) (Ev.pos (by omega) (ih (i + 1) (by omega)))
def unpackM (b : List Int) (n : Int) : List Int × Bool := if 0 ≤ n ∧ n ≤ 1024 ∧ b.length = (n.toNat + 7) / 8 then unpackR b n.toNat else ([], false)
theorem un_size (n : Nat) (hn : n ≤ 1024) : wrap64 (Int.tdiv (wrap64 ((n : Int) + 7)) 8) = (((n + 7) / 8 : Nat) : Int) := by
  rw [w64 (n := (n : Int) + 7) (by omega) (by omega), show (n : Int) + 7 = ((n + 7 : Nat) : Int) by omega, show Int.tdiv ((n + 7 : Nat) : Int) 8 = (((n + 7) / 8 : Nat) : Int) from rfl, w64 (by omega) (by omega)]
theorem sUnpack8_ev (b : List Int) (n : Int) (hb : Bytes b) : Ev (fun k => spec_Unpack8.f k b n) (unpackM b n) := by
  unfold spec_Unpack8.f
  refine Ev.bind0 rfl (Ev.bind0 (l1In_eq _ _ _) ?_)
  have bad : Ev (fun k => spec_Unpack8.j0 k b n [] true) ([], false) := Ev.fin (fun k => by rw [spec_Unpack8.j0, if_pos rfl])
  by_cases h : 0 ≤ n ∧ n ≤ 1024
  · refine Ev.pos (decide_eq_true h) ?_
    obtain ⟨n, rfl⟩ : ∃ m : Nat, n = m := ⟨n.toNat, by omega⟩
    rw [un_size n (by omega)]
    by_cases h2 : b.length = (n + 7) / 8
    · have e : unpackM b (n : Int) = unpackR b n := by unfold unpackM; rw [if_pos ⟨h.1, h.2, by rw [Int.toNat_natCast]; exact h2⟩, Int.toNat_natCast]
      rw [e, h2, bne_self_eq_false]
      exact Ev.step (f := fun k => spec_Unpack8.l0 k b (n : Int) (ubits b 0) ((0 : Nat) : Int)) (fun k => by rw [spec_Unpack8.j0, if_neg (by decide)]; rfl) (sUnpack_head b hb (by omega) n (by omega) n 0 (by omega))
    · have e : unpackM b (n : Int) = ([], false) := by unfold unpackM; rw [if_neg (fun hh => h2 (by rw [Int.toNat_natCast] at hh; exact hh.2.2))]
      rw [e, bne_iff_ne.mpr (show (b.length : Int) ≠ (((n + 7) / 8 : Nat) : Int) by omega)]
      exact bad
  · have e : unpackM b n = ([], false) := by unfold unpackM; rw [if_neg (fun hh => h ⟨hh.1, hh.2.1⟩)]
    rw [e]
    exact Ev.neg (by rw [decide_eq_true_eq]; exact h) bad
theorem iUnpack8_ev (b : List Int) (n : Int) (hb : Bytes b) : Ev (fun k => impl_Unpack8.f k b n) (unpackM b n) := by
  unfold impl_Unpack8.f
  have bad : Ev (fun k => impl_Unpack8.j0 k b n true) ([], false) := Ev.fin (fun k => by rw [impl_Unpack8.j0, if_pos rfl])
  by_cases h0 : n < 0
  · have e : unpackM b n = ([], false) := by unfold unpackM; rw [if_neg (fun hh => by omega)]
    rw [e]; exact Ev.pos h0 bad
  refine Ev.neg h0 ?_
  by_cases h1 : n > 1024
  · have e : unpackM b n = ([], false) := by unfold unpackM; rw [if_neg (fun hh => by omega)]
    rw [e]; exact Ev.pos h1 bad
  refine Ev.neg h1 ?_
  obtain ⟨n, rfl⟩ : ∃ m : Nat, n = m := ⟨n.toNat, by omega⟩
  rw [un_size n (by omega)]
  by_cases h2 : b.length = (n + 7) / 8
  · have e : unpackM b (n : Int) = unpackR b n := by unfold unpackM; rw [if_pos ⟨by omega, by omega, by rw [Int.toNat_natCast]; exact h2⟩, Int.toNat_natCast]
    have hlen := ubits_len b (8 * b.length)
    have hn : n ≤ 8 * b.length := by omega
    rw [e, h2, bne_self_eq_false]
    have hu : Ev (fun k => impl_unpack8.f k b) (ubits b (8 * b.length)) := by
      unfold impl_unpack8.f
      exact unpack_l0 b hb (by omega) b.length 0 (by omega)
    have hr := iUnpack_l0 b (by omega) n hn (8 * b.length - n) 0 (by omega)
    have all : Ev (fun k => (impl_unpack8.f k b).bind fun t121 => (if 0 ≤ (n : Int) then (if (n : Int) ≤ (t121.length : Int) then ((some (t121.drop ((n : Int) : Int).toNat : List Int)).bind fun y124 => (impl_Unpack8.l0 k (n : Int) t121 y124 (y124.length : Int) 0)) else (none)) else (none))) (unpackR b n) := by
      refine Ev.bind hu (Ev.pos (by omega) (Ev.pos (by rw [hlen]; omega) (Ev.bind0 rfl ?_)))
      rw [Int.toNat_natCast]
      exact hr
    exact Ev.step (fun k => by rw [impl_Unpack8.j0, if_neg (by decide)]) all
  · have e : unpackM b (n : Int) = ([], false) := by unfold unpackM; rw [if_neg (fun hh => h2 (by rw [Int.toNat_natCast] at hh; exact hh.2.2))]
    rw [e, bne_iff_ne.mpr (show (b.length : Int) ≠ (((n + 7) / 8 : Nat) : Int) by omega)]
    exact bad
theorem unpackM_len (b : List Int) (n : Int) : (unpackM b n).1.length ≤ 1024 := by
  unfold unpackM
  split
  · rename_i h
    unfold unpackR
    split
    · simp
    · simp only [ubits_len]; omega
  · simp
theorem Unpack8_both (b : List Int) (n : Int) (hl : b.length ≤ 1048576) (wb : Bytes b) : ∃ r ok, Ev (fun k => spec_Unpack8.f k b n) (r, ok) ∧ Ev (fun k => impl_Unpack8.f k b n) (r, ok) ∧ r.length ≤ 17592186044416 :=
  ⟨(unpackM b n).1, (unpackM b n).2, sUnpack8_ev b n wb, iUnpack8_ev b n wb, Nat.le_trans (unpackM_len b n) (by decide)⟩

theorem toByteS_l0 (l : List Int) (hl : l.length ≤ 17592186044416) : ∀ (d i : Nat) (x : List Int), i + d = l.length → x.length = l.length → x.take i = l.take i →
    Ev (fun k => laws_toByteS.l0 k l x (i : Int)) l := by
  intro d
  induction d with
  | zero =>
    intro i x hd hx ht
    refine Ev.fin (fun k => ?_)
    rw [laws_toByteS.l0, if_neg (by omega)]
    rw [List.take_of_length_le (by omega), List.take_of_length_le (by omega)] at ht
    rw [ht]
  | succ d ih =>
    intro i x hd hx ht
    refine Ev.step (fun k => ?_) (ih (i + 1) (x.set i (rd l (i : Int))) (by omega) (by simpa using hx) ?_)
    · rw [laws_toByteS.l0, if_pos (by omega), if_pos (by omega), if_pos (by omega), wsucc (by omega), Int.toNat_natCast]
    · rw [take_rd (by simp; omega), take_rd (by omega), List.take_set_of_le (by omega), ht, rd_lt (by simp; omega), List.getElem_set_self]
theorem toByteS_ev (l : List Int) (hl : l.length ≤ 17592186044416) : Ev (fun k => laws_toByteS.f k l) l := by
  unfold laws_toByteS.f
  refine Ev.pos (by omega) (Ev.pos (by omega) ?_)
  exact toByteS_l0 l hl l.length 0 _ (by omega) (by simp) (by simp)

theorem eqByteS_l0 (l : List Int) (hl : l.length ≤ 17592186044416) : ∀ (d i : Nat), i + d = l.length → Ev (fun k => laws_eqByteS.l0 k l l (i : Int)) true := by
  intro d
  induction d with
  | zero =>
    intro i hd
    refine Ev.fin (fun k => ?_)
    rw [laws_eqByteS.l0, if_neg (by omega)]
  | succ d ih =>
    intro i hd
    refine Ev.step (fun k => ?_) (ih (i + 1) (by omega))
    rw [laws_eqByteS.l0, if_pos (by omega), if_pos (by omega), if_pos (by omega), if_pos rfl, wsucc (by omega)]
theorem eqByteS_ev (l : List Int) (hl : l.length ≤ 17592186044416) : Ev (fun k => laws_eqByteS.f k l l) true := by
  unfold laws_eqByteS.f
  exact Ev.pos rfl (eqByteS_l0 l hl l.length 0 (by omega))

theorem markByteS_l0 (n : Nat) (s : Int) (hs : 0 ≤ s ∧ s ≤ 100000000000000) (hn : n ≤ 17592186044416) : ∀ (d i : Nat) (x : List Int), i + d = n → x.length = n → x.take i = mkB s i →
    Ev (fun k => laws_markByteS.l0 k x (s + (i : Int)) (i : Int)) (s + (n : Int), mkB s n) := by
  intro d
  induction d with
  | zero =>
    intro i x hd hx ht
    refine Ev.fin (fun k => ?_)
    rw [laws_markByteS.l0, if_neg (by omega)]
    obtain rfl : i = n := by omega
    rw [List.take_of_length_le (by omega)] at ht
    rw [ht]
  | succ d ih =>
    intro i x hd hx ht
    refine Ev.step (fun k => ?_) (ih (i + 1) (x.set i ((s + (i : Int)) % 256)) (by omega) (by simpa using hx) ?_)
    · have e : wrap64 (s + (i : Int) + 1) = s + ((i + 1 : Nat) : Int) := by rw [w64 (by omega) (by omega)]; omega
      rw [laws_markByteS.l0, if_pos (by omega), if_pos (by omega), wsucc (by omega), e, Int.toNat_natCast]
    · rw [take_rd (by simp; omega), List.take_set_of_le (by omega), ht, rd_lt (by simp; omega), List.getElem_set_self]
      rfl
theorem markByteS_ev (x : List Int) (s : Int) (hs : 0 ≤ s ∧ s ≤ 100000000000000) (hl : x.length ≤ 17592186044416) : Ev (fun k => laws_markByteS.f k x s) (s + (x.length : Int), mkB s x.length) := by
  unfold laws_markByteS.f
  exact Ev.cast (Ev.congr (fun k => by rw [Int.natCast_zero, Int.add_zero]) (markByteS_l0 x.length s hs hl x.length 0 x (by omega) rfl (by simp [mkB]))) rfl

theorem eqIntS_l0 (l : List Int) (hl : l.length ≤ 17592186044416) : ∀ (d i : Nat), i + d = l.length → Ev (fun k => laws_eqIntS.l0 k l l (i : Int)) true := by
  intro d
  induction d with
  | zero =>
    intro i hd
    refine Ev.fin (fun k => ?_)
    rw [laws_eqIntS.l0, if_neg (by omega)]
  | succ d ih =>
    intro i hd
    refine Ev.step (fun k => ?_) (ih (i + 1) (by omega))
    rw [laws_eqIntS.l0, if_pos (by omega), if_pos (by omega), if_pos (by omega), if_pos rfl, wsucc (by omega)]
theorem eqIntS_ev (l : List Int) (hl : l.length ≤ 17592186044416) : Ev (fun k => laws_eqIntS.f k l l) true := by
  unfold laws_eqIntS.f
  exact Ev.pos rfl (eqIntS_l0 l hl l.length 0 (by omega))

theorem markIntS_l0 (n : Nat) (s : Int) (hs : 0 ≤ s ∧ s ≤ 100000000000000) (hn : n ≤ 17592186044416) : ∀ (d i : Nat) (x : List Int), i + d = n → x.length = n → x.take i = mkL s i →
    Ev (fun k => laws_markIntS.l0 k x (s + (i : Int)) (i : Int)) (s + (n : Int), mkL s n) := by
  intro d
  induction d with
  | zero =>
    intro i x hd hx ht
    refine Ev.fin (fun k => ?_)
    rw [laws_markIntS.l0, if_neg (by omega)]
    obtain rfl : i = n := by omega
    rw [List.take_of_length_le (by omega)] at ht
    rw [ht]
  | succ d ih =>
    intro i x hd hx ht
    refine Ev.step (fun k => ?_) (ih (i + 1) (x.set i (s + (i : Int))) (by omega) (by simpa using hx) ?_)
    · have e : wrap64 (s + (i : Int) + 1) = s + ((i + 1 : Nat) : Int) := by rw [w64 (by omega) (by omega)]; omega
      rw [laws_markIntS.l0, if_pos (by omega), if_pos (by omega), wsucc (by omega), e, Int.toNat_natCast]
    · rw [take_rd (by simp; omega), List.take_set_of_le (by omega), ht, rd_lt (by simp; omega), List.getElem_set_self]
      rfl
theorem markIntS_ev (x : List Int) (s : Int) (hs : 0 ≤ s ∧ s ≤ 100000000000000) (hl : x.length ≤ 17592186044416) : Ev (fun k => laws_markIntS.f k x s) (s + (x.length : Int), mkL s x.length) := by
  unfold laws_markIntS.f
  exact Ev.cast (Ev.congr (fun k => by rw [Int.natCast_zero, Int.add_zero]) (markIntS_l0 x.length s hs hl x.length 0 x (by omega) rfl (by simp [mkL]))) rfl

theorem heldIntS_l0 (n : Nat) (s : Int) (hs : 0 ≤ s ∧ s ≤ 100000000000000) (hn : n ≤ 17592186044416) : ∀ (d i : Nat), i + d = n → Ev (fun k => laws_heldIntS.l0 k (mkL s n) (s + (i : Int)) (i : Int)) (s + (n : Int)) := by
  intro d
  induction d with
  | zero =>
    intro i hd
    refine Ev.fin (fun k => ?_)
    rw [laws_heldIntS.l0, mkL_length, if_neg (by omega)]
    congr 1; omega
  | succ d ih =>
    intro i hd
    refine Ev.step (fun k => ?_) (ih (i + 1) (by omega))
    have e : wrap64 (s + (i : Int) + 1) = s + ((i + 1 : Nat) : Int) := by rw [w64 (by omega) (by omega)]; omega
    rw [laws_heldIntS.l0, mkL_length, if_pos (by omega), if_pos (by omega), if_pos (rd_mkL s (by omega)), wsucc (by omega), e]
theorem heldIntS_ev (n : Nat) (s : Int) (hs : 0 ≤ s ∧ s ≤ 100000000000000) (hl : n ≤ 17592186044416) : Ev (fun k => laws_heldIntS.f k (mkL s n) s) (s + (n : Int)) := by
  unfold laws_heldIntS.f
  exact Ev.congr (fun k => by rw [Int.natCast_zero, Int.add_zero]) (heldIntS_l0 n s hs hl n 0 (by omega))

theorem FnExactUnpack8 : laws_FnExactUnpack8.Pure := by
  intro b n _ bb wb wn
  refine Ev.rounds ?_
  unfold laws_FnExactUnpack8.f
  by_cases gb : (b.length : Int) > 1048576
  · exact Ev.pos gb (Ev.now true)
  refine Ev.neg gb ?_
  have hb : b.length ≤ 1048576 := by omega
  have hb4 : b.length ≤ 17592186044416 := by omega
  obtain ⟨r, ok, hS, hI, hr⟩ := Unpack8_both b n hb wb
  have mb : 0 ≤ (1 : Int) ∧ (1 : Int) ≤ 100000000000000 := by omega
  have m1 : 0 ≤ (1 : Int) ∧ (1 : Int) ≤ 100000000000000 := by omega
  repeat (first
    | exact Ev.now true
    | with_reducible refine Ev.bind (toByteS_ev b hb4) ?_
    | with_reducible refine Ev.bind hS ?_
    | with_reducible refine Ev.bind hI ?_
    | with_reducible refine Ev.bind (eqByteS_ev b hb4) ?_
    | with_reducible refine Ev.bind (eqIntS_ev r hr) ?_
    | with_reducible refine Ev.bind (markByteS_ev b (1) mb hb4) ?_
    | with_reducible refine Ev.bind (markIntS_ev r 1 m1 hr) ?_
    | with_reducible refine Ev.bind (heldIntS_ev r.length 1 m1 hr) ?_
    | refine Ev.pos rfl ?_
    | (refine Ev.neg ?_ ?_; (· first | (simp; done) | omega))
    | refine Ev.step (fun k => by rw [laws_FnExactUnpack8.j0]) ?_
    | refine Ev.step (fun k => by rw [laws_FnExactUnpack8.j1]) ?_
    | refine Ev.step (fun k => by rw [laws_FnExactUnpack8.j2]) ?_)

end Go.Proofs.Ytnpoimjdkjhcpaa.Pure
