/- Pack8 tells what the reference tells, leaves its arguments alone and answers new memory, for all arguments; no condition. -/
import Derived.Test.YtkdpnjobokijdaaQFnExactPack8x3
import Derived.Test.YtkdpnjobokijdaaCom
import Derived.Test.YtkdpnjobokijdaaMark
set_option linter.unusedVariables false
set_option linter.unusedSimpArgs false
namespace Go.Proofs.Ytkdpnjobokijdaa.Pure
open Go.RowKit Go.Proofs.Ytkdpnjobokijdaa.PFnExactPack8 Go.Proofs.YtkdpnjobokijdaaW.PrintWords Go.Proofs.YtkdpnjobokijdaaW.PrintLast Go.Proofs.Ytkdpnjobokijdaa.Com Go.Proofs.Ytkdpnjobokijdaa.Mark

theorem l1In_eq (a b c : Int) : spec_l1In.f a b c = some (decide (b ≤ a ∧ a ≤ c)) := by
  unfold spec_l1In.f
  by_cases h : b ≤ a
  · rw [if_pos h]; simp [h]
  · rw [if_neg h]; simp [h]

theorem sBitsOk_l0 (l : List Int) (hl : l.length ≤ 17592186044416) : ∀ (d i : Nat), i + d = l.length → Ev (fun k => spec_BitsOk.l0 k l (i : Int)) ((l.drop i).all isB && decide (l.length ≤ 1024)) := by
  intro d
  induction d with
  | zero =>
    intro i hd
    refine Ev.fin (fun k => ?_)
    rw [spec_BitsOk.l0, if_neg (by omega), List.drop_of_length_le (by omega)]
    simp
    omega
  | succ d ih =>
    intro i hd
    rw [drop_rd (by omega)]
    have e : spec_l1In.f (rd l (i : Int)) 0 1 = some (isB (rd l (i : Int))) := by
      rw [l1In_eq]; congr 1; unfold isB; rw [Bool.eq_iff_iff]; simp; omega
    by_cases hb : isB (rd l (i : Int)) = true
    · refine Ev.cast (Ev.step (fun k => ?_) (ih (i + 1) (by omega))) (by simp [hb])
      rw [spec_BitsOk.l0, if_pos (by omega), if_pos (by omega), e, Option.bind_some, if_pos hb, wsucc (by omega)]
    · refine Ev.fin (fun k => ?_)
      rw [spec_BitsOk.l0, if_pos (by omega), if_pos (by omega), e, Option.bind_some, if_neg hb]
      simp [hb]
theorem sBitsOk_ev (l : List Int) (hl : l.length ≤ 17592186044416) : Ev (fun k => spec_BitsOk.f k l) (bitsOk l) := by
  unfold spec_BitsOk.f
  exact sBitsOk_l0 l hl l.length 0 (by omega)

theorem isBit_eq (x : Int) : impl_isBit.f x = some (isB x) := by
  unfold impl_isBit.f isB
  by_cases h : x = 0
  · rw [if_pos h]; simp [h]
  · rw [if_neg h]; simp [h]

theorem iBitsOk_l0 (l : List Int) (hl : l.length ≤ 17592186044416) : ∀ (d i : Nat), i + d = l.length → Ev (fun k => impl_BitsOk.l0 k l l (l.length : Int) (i : Int)) ((l.drop i).all isB && decide (l.length ≤ 1024)) := by
  intro d
  induction d with
  | zero =>
    intro i hd
    refine Ev.fin (fun k => ?_)
    rw [impl_BitsOk.l0, if_neg (by omega), List.drop_of_length_le (by omega)]
    simp
    omega
  | succ d ih =>
    intro i hd
    rw [drop_rd (by omega)]
    by_cases hb : isB (rd l (i : Int)) = true
    · refine Ev.cast (Ev.step (fun k => ?_) (ih (i + 1) (by omega))) (by simp [hb])
      rw [impl_BitsOk.l0, if_pos (by omega), if_pos (by omega), if_pos (by omega), isBit_eq, Option.bind_some, if_pos hb, wsucc (by omega)]
    · refine Ev.fin (fun k => ?_)
      rw [impl_BitsOk.l0, if_pos (by omega), if_pos (by omega), if_pos (by omega), isBit_eq, Option.bind_some, if_neg hb]
      simp [hb]
theorem iBitsOk_ev (l : List Int) (hl : l.length ≤ 17592186044416) : Ev (fun k => impl_BitsOk.f k l) (bitsOk l) := by
  unfold impl_BitsOk.f
  exact iBitsOk_l0 l hl l.length 0 (by omega)

/-- Bits put into bytes from place i on. -/
def pkG : List Int → Nat → List Int → List Int
  | [], _, out => out
  | x :: t, i, out => pkG t (i + 1) (out.set (i / 8) (Go.bits .or .u8 (rd out ((i / 8 : Nat) : Int)) (x * 2 ^ (7 - i % 8))))
theorem pkG_len : ∀ (l : List Int) (i : Nat) (out : List Int), (pkG l i out).length = out.length
  | [], _, _ => rfl
  | x :: t, i, out => by rw [pkG, pkG_len t, List.length_set]
theorem shl_i (x : Nat) (s : Nat) (hx : x < 2) (hs : s ≤ 7) : (shl .i64 (x : Int) (s : Int)) % 256 = (x : Int) * 2 ^ s := by
  have h : ∀ x < 2, ∀ s < 8, (shl .i64 ((x : Nat) : Int) ((s : Nat) : Int)) % 256 = (x : Int) * 2 ^ s := by decide +kernel
  exact h x hx s (by omega)
theorem shl_u (x : Nat) (s : Nat) (hx : x < 2) (hs : s ≤ 7) : shl .u8 ((x : Int) % 256) (s : Int) = (x : Int) * 2 ^ s := by
  have h : ∀ x < 2, ∀ s < 8, shl .u8 (((x : Nat) : Int) % 256) ((s : Nat) : Int) = (x : Int) * 2 ^ s := by decide +kernel
  exact h x hx s (by omega)
theorem Pack8_loops (l : List Int) (hl : l.length ≤ 1024) (hb : ∀ x ∈ l, x = 0 ∨ x = 1) : ∀ (d i : Nat) (out : List Int), i + d = l.length → out.length = (l.length + 7) / 8 →
    Ev (fun k => spec_Pack8.l0 k l out (i : Int)) (pkG (l.drop i) i out, true) ∧ Ev (fun k => impl_pack8.l0 k out l (l.length : Int) (i : Int)) (pkG (l.drop i) i out) := by
  intro d
  induction d with
  | zero =>
    intro i out hd ho
    rw [List.drop_of_length_le (by omega), pkG]
    exact ⟨Ev.fin (fun k => by rw [spec_Pack8.l0, if_neg (by omega)]), Ev.fin (fun k => by rw [impl_pack8.l0, if_neg (by omega)])⟩
  | succ d ih =>
    intro i out hd ho
    have hx := hb _ (rd_mem (xs := l) (i := i) (by omega))
    obtain ⟨x, ex⟩ : ∃ x : Nat, rd l (i : Int) = (x : Int) := ⟨(rd l (i : Int)).toNat, by omega⟩
    have hx2 : x < 2 := by omega
    have e8 : wrap64 (Int.tdiv (i : Int) 8) = ((i / 8 : Nat) : Int) := by
      rw [show Int.tdiv (i : Int) 8 = ((i / 8 : Nat) : Int) from rfl, w64 (by omega) (by omega)]
    have e7 : wrap64 (7 - Int.tmod (i : Int) 8) = ((7 - i % 8 : Nat) : Int) := by
      rw [show Int.tmod (i : Int) 8 = ((i % 8 : Nat) : Int) from rfl, w64 (by omega) (by omega)]; omega
    have eu : IntKind.u64.wrap ((7 - i % 8 : Nat) : Int) = ((7 - i % 8 : Nat) : Int) := u64w (by omega) (by omega)
    have hq : i / 8 < out.length := by omega
    rw [drop_rd (i := i) (by omega), pkG]
    obtain ⟨h1, h2⟩ := ih (i + 1) (out.set (i / 8) (Go.bits .or .u8 (rd out ((i / 8 : Nat) : Int)) (rd l (i : Int) * 2 ^ (7 - i % 8)))) (by omega) (by simpa using ho)
    refine ⟨Ev.step (fun k => ?_) h1, Ev.step (fun k => ?_) h2⟩
    · rw [spec_Pack8.l0, if_pos (by omega), e8, if_pos (by omega), if_pos (by omega), if_pos (by omega), e7, eu, if_pos (by omega), ex, shl_i x _ hx2 (by omega), wsucc (by omega), Int.toNat_natCast]
    · rw [impl_pack8.l0, if_pos (by omega), if_pos (by omega), if_pos (by omega), e8, if_pos (by omega), if_pos (by omega), e7, if_pos (by omega), ex, shl_u x _ hx2 (by omega), wsucc (by omega), Int.toNat_natCast]
def pack8L (l : List Int) : List Int := pkG l 0 (List.replicate ((l.length + 7) / 8) 0)
theorem pack8L_len (l : List Int) : (pack8L l).length = (l.length + 7) / 8 := by unfold pack8L; rw [pkG_len, List.length_replicate]
theorem pk_size (l : List Int) (hl : l.length ≤ 1048576) : wrap64 (Int.tdiv (wrap64 ((l.length : Int) + 7)) 8) = (((l.length + 7) / 8 : Nat) : Int) := by
  rw [w64 (n := (l.length : Int) + 7) (by omega) (by omega), show (l.length : Int) + 7 = ((l.length + 7 : Nat) : Int) by omega, show Int.tdiv ((l.length + 7 : Nat) : Int) 8 = (((l.length + 7) / 8 : Nat) : Int) from rfl, w64 (by omega) (by omega)]
def pack8M (l : List Int) : List Int × Bool := if bitsOk l = true then (pack8L l, true) else ([], false)
theorem sPack8_ev (l : List Int) (hl : l.length ≤ 1048576) : Ev (fun k => spec_Pack8.f k l) (pack8M l) := by
  unfold spec_Pack8.f pack8M
  refine Ev.bind (sBitsOk_ev l (by omega)) ?_
  by_cases hb : bitsOk l = true
  · rw [if_pos hb]
    refine Ev.pos hb ?_
    rw [pk_size l hl, Int.toNat_natCast]
    exact Ev.pos (by omega) (Ev.pos (by omega) (Pack8_loops l (bitsOk_len hb) (bitsOk_all hb) l.length 0 _ (by omega) (by simp)).1)
  · rw [if_neg hb]
    exact Ev.neg hb (Ev.now _)
theorem iPack8_ev (l : List Int) (hl : l.length ≤ 1048576) : Ev (fun k => impl_Pack8.f k l) (pack8M l) := by
  unfold impl_Pack8.f pack8M
  refine Ev.bind (iBitsOk_ev l (by omega)) ?_
  by_cases hb : bitsOk l = true
  · rw [if_pos hb]
    have h : Ev (fun k => impl_pack8.f k l) (pack8L l) := by
      unfold impl_pack8.f
      rw [pk_size l hl, Int.toNat_natCast]
      exact Ev.pos (by omega) (Ev.pos (by omega) (Pack8_loops l (bitsOk_len hb) (bitsOk_all hb) l.length 0 _ (by omega) (by simp)).2)
    exact Ev.pos hb (Ev.bind h (Ev.now _))
  · rw [if_neg hb]
    exact Ev.neg hb (Ev.now _)
theorem Pack8_both (l : List Int) (hl : l.length ≤ 1048576) : ∃ r ok, Ev (fun k => spec_Pack8.f k l) (r, ok) ∧ Ev (fun k => impl_Pack8.f k l) (r, ok) ∧ r.length ≤ 17592186044416 := by
  refine ⟨(pack8M l).1, (pack8M l).2, sPack8_ev l hl, iPack8_ev l hl, ?_⟩
  unfold pack8M
  split
  · simp only [pack8L_len]; omega
  · simp

theorem toIntS_l0 (l : List Int) (hl : l.length ≤ 17592186044416) : ∀ (d i : Nat) (x : List Int), i + d = l.length → x.length = l.length → x.take i = l.take i →
    Ev (fun k => laws_toIntS.l0 k l x (i : Int)) l := by
  intro d
  induction d with
  | zero =>
    intro i x hd hx ht
    refine Ev.fin (fun k => ?_)
    rw [laws_toIntS.l0, if_neg (by omega)]
    rw [List.take_of_length_le (by omega), List.take_of_length_le (by omega)] at ht
    rw [ht]
  | succ d ih =>
    intro i x hd hx ht
    refine Ev.step (fun k => ?_) (ih (i + 1) (x.set i (rd l (i : Int))) (by omega) (by simpa using hx) ?_)
    · rw [laws_toIntS.l0, if_pos (by omega), if_pos (by omega), if_pos (by omega), wsucc (by omega), Int.toNat_natCast]
    · rw [take_rd (by simp; omega), take_rd (by omega), List.take_set_of_le (by omega), ht, rd_lt (by simp; omega), List.getElem_set_self]
theorem toIntS_ev (l : List Int) (hl : l.length ≤ 17592186044416) : Ev (fun k => laws_toIntS.f k l) l := by
  unfold laws_toIntS.f
  refine Ev.pos (by omega) (Ev.pos (by omega) ?_)
  exact toIntS_l0 l hl l.length 0 _ (by omega) (by simp) (by simp)

theorem eqIntS_l0 (l : List Int) (hl : l.length ≤ 17592186044416) : ∀ (d i : Nat), i + d = l.length → Ev (fun k => laws_eqIntS.l0 k l l (i : Int)) true := by
  intro d
  induction d with
  | zero =>
    intro i hd
    refine Ev.fin (fun k => ?_)
    rw [laws_eqIntS.l0, if_neg (by omega)]
  | succ d ih =>
    intro i hd
    refine Ev.step (fun k => ?_) (ih (i + 1) (by omega))
    rw [laws_eqIntS.l0, if_pos (by omega), if_pos (by omega), if_pos (by omega), if_pos rfl, wsucc (by omega)]
theorem eqIntS_ev (l : List Int) (hl : l.length ≤ 17592186044416) : Ev (fun k => laws_eqIntS.f k l l) true := by
  unfold laws_eqIntS.f
  exact Ev.pos rfl (eqIntS_l0 l hl l.length 0 (by omega))

theorem markIntS_l0 (n : Nat) (s : Int) (hs : 0 ≤ s ∧ s ≤ 100000000000000) (hn : n ≤ 17592186044416) : ∀ (d i : Nat) (x : List Int), i + d = n → x.length = n → x.take i = mkL s i →
    Ev (fun k => laws_markIntS.l0 k x (s + (i : Int)) (i : Int)) (s + (n : Int), mkL s n) := by
  intro d
  induction d with
  | zero =>
    intro i x hd hx ht
    refine Ev.fin (fun k => ?_)
    rw [laws_markIntS.l0, if_neg (by omega)]
    obtain rfl : i = n := by omega
    rw [List.take_of_length_le (by omega)] at ht
    rw [ht]
  | succ d ih =>
    intro i x hd hx ht
    refine Ev.step (fun k => ?_) (ih (i + 1) (x.set i (s + (i : Int))) (by omega) (by simpa using hx) ?_)
    · have e : wrap64 (s + (i : Int) + 1) = s + ((i + 1 : Nat) : Int) := by rw [w64 (by omega) (by omega)]; omega
      rw [laws_markIntS.l0, if_pos (by omega), if_pos (by omega), wsucc (by omega), e, Int.toNat_natCast]
    · rw [take_rd (by simp; omega), List.take_set_of_le (by omega), ht, rd_lt (by simp; omega), List.getElem_set_self]
      rfl
theorem markIntS_ev (x : List Int) (s : Int) (hs : 0 ≤ s ∧ s ≤ 100000000000000) (hl : x.length ≤ 17592186044416) : Ev (fun k => laws_markIntS.f k x s) (s + (x.length : Int), mkL s x.length) := by
  unfold laws_markIntS.f
  exact Ev.cast (Ev.congr (fun k => by rw [Int.natCast_zero, Int.add_zero]) (markIntS_l0 x.length s hs hl x.length 0 x (by omega) rfl (by simp [mkL]))) rfl

theorem eqByteS_l0 (l : List Int) (hl : l.length ≤ 17592186044416) : ∀ (d i : Nat), i + d = l.length → Ev (fun k => laws_eqByteS.l0 k l l (i : Int)) true := by
  intro d
  induction d with
  | zero =>
    intro i hd
    refine Ev.fin (fun k => ?_)
    rw [laws_eqByteS.l0, if_neg (by omega)]
  | succ d ih =>
    intro i hd
    refine Ev.step (fun k => ?_) (ih (i + 1) (by omega))
    rw [laws_eqByteS.l0, if_pos (by omega), if_pos (by omega), if_pos (by omega), if_pos rfl, wsucc (by omega)]
theorem eqByteS_ev (l : List Int) (hl : l.length ≤ 17592186044416) : Ev (fun k => laws_eqByteS.f k l l) true := by
  unfold laws_eqByteS.f
  exact Ev.pos rfl (eqByteS_l0 l hl l.length 0 (by omega))

theorem markByteS_l0 (n : Nat) (s : Int) (hs : 0 ≤ s ∧ s ≤ 100000000000000) (hn : n ≤ 17592186044416) : ∀ (d i : Nat) (x : List Int), i + d = n → x.length = n → x.take i = mkB s i →
    Ev (fun k => laws_markByteS.l0 k x (s + (i : Int)) (i : Int)) (s + (n : Int), mkB s n) := by
  intro d
  induction d with
  | zero =>
    intro i x hd hx ht
    refine Ev.fin (fun k => ?_)
    rw [laws_markByteS.l0, if_neg (by omega)]
    obtain rfl : i = n := by omega
    rw [List.take_of_length_le (by omega)] at ht
    rw [ht]
  | succ d ih =>
    intro i x hd hx ht
    refine Ev.step (fun k => ?_) (ih (i + 1) (x.set i ((s + (i : Int)) % 256)) (by omega) (by simpa using hx) ?_)
    · have e : wrap64 (s + (i : Int) + 1) = s + ((i + 1 : Nat) : Int) := by rw [w64 (by omega) (by omega)]; omega
      rw [laws_markByteS.l0, if_pos (by omega), if_pos (by omega), wsucc (by omega), e, Int.toNat_natCast]
    · rw [take_rd (by simp; omega), List.take_set_of_le (by omega), ht, rd_lt (by simp; omega), List.getElem_set_self]
      rfl
theorem markByteS_ev (x : List Int) (s : Int) (hs : 0 ≤ s ∧ s ≤ 100000000000000) (hl : x.length ≤ 17592186044416) : Ev (fun k => laws_markByteS.f k x s) (s + (x.length : Int), mkB s x.length) := by
  unfold laws_markByteS.f
  exact Ev.cast (Ev.congr (fun k => by rw [Int.natCast_zero, Int.add_zero]) (markByteS_l0 x.length s hs hl x.length 0 x (by omega) rfl (by simp [mkB]))) rfl

theorem heldByteS_l0 (n : Nat) (s : Int) (hs : 0 ≤ s ∧ s ≤ 100000000000000) (hn : n ≤ 17592186044416) : ∀ (d i : Nat), i + d = n → Ev (fun k => laws_heldByteS.l0 k (mkB s n) (s + (i : Int)) (i : Int)) (s + (n : Int)) := by
  intro d
  induction d with
  | zero =>
    intro i hd
    refine Ev.fin (fun k => ?_)
    rw [laws_heldByteS.l0, mkB_length, if_neg (by omega)]
    congr 1; omega
  | succ d ih =>
    intro i hd
    refine Ev.step (fun k => ?_) (ih (i + 1) (by omega))
    have e : wrap64 (s + (i : Int) + 1) = s + ((i + 1 : Nat) : Int) := by rw [w64 (by omega) (by omega)]; omega
    rw [laws_heldByteS.l0, mkB_length, if_pos (by omega), if_pos (by omega), if_pos (rd_mkB s (by omega)), wsucc (by omega), e]
theorem heldByteS_ev (n : Nat) (s : Int) (hs : 0 ≤ s ∧ s ≤ 100000000000000) (hl : n ≤ 17592186044416) : Ev (fun k => laws_heldByteS.f k (mkB s n) s) (s + (n : Int)) := by
  unfold laws_heldByteS.f
  exact Ev.congr (fun k => by rw [Int.natCast_zero, Int.add_zero]) (heldByteS_l0 n s hs hl n 0 (by omega))

theorem FnExactPack8 : laws_FnExactPack8.Pure := by
  intro l _ bl wl
  refine Ev.rounds ?_
  unfold laws_FnExactPack8.f
  by_cases gl : (l.length : Int) > 1048576
  · exact Ev.pos gl (Ev.now true)
  refine Ev.neg gl ?_
  have hl : l.length ≤ 1048576 := by omega
  have hl4 : l.length ≤ 17592186044416 := by omega
  obtain ⟨r, ok, hS, hI, hr⟩ := Pack8_both l hl
  have ml : 0 ≤ (1 : Int) ∧ (1 : Int) ≤ 100000000000000 := by omega
  have m1 : 0 ≤ (1 : Int) ∧ (1 : Int) ≤ 100000000000000 := by omega
  repeat (first
    | exact Ev.now true
    | with_reducible refine Ev.bind (toIntS_ev l hl4) ?_
    | with_reducible refine Ev.bind hS ?_
    | with_reducible refine Ev.bind hI ?_
    | with_reducible refine Ev.bind (eqIntS_ev l hl4) ?_
    | with_reducible refine Ev.bind (eqByteS_ev r hr) ?_
    | with_reducible refine Ev.bind (markIntS_ev l (1) ml hl4) ?_
    | with_reducible refine Ev.bind (markByteS_ev r 1 m1 hr) ?_
    | with_reducible refine Ev.bind (heldByteS_ev r.length 1 m1 hr) ?_
    | refine Ev.pos rfl ?_
    | (refine Ev.neg ?_ ?_; (· first | (simp; done) | omega))
    | refine Ev.step (fun k => by rw [laws_FnExactPack8.j0]) ?_
    | refine Ev.step (fun k => by rw [laws_FnExactPack8.j1]) ?_
    | refine Ev.step (fun k => by rw [laws_FnExactPack8.j2]) ?_)

end Go.Proofs.Ytkdpnjobokijdaa.Pure
