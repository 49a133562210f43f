/- Bytes drawn from a code, one of them turned, have another check of 16 bits; for every code. -/
import Derived.Test.YtnpoimjdkjhcpaaQFnCrcx2
import Derived.Test.YtnpoimjdkjhcpaaCom
import Derived.Test.YtnpoimjdkjhcpaaCrc
set_option linter.unusedVariables false
set_option linter.unusedSimpArgs false
namespace Go.Proofs.Ytnpoimjdkjhcpaa.Pure
open Go.RowKit Go.Proofs.Ytnpoimjdkjhcpaa.PFnCrc Go.Proofs.YtnpoimjdkjhcpaaW.PrintWords Go.Proofs.YtnpoimjdkjhcpaaW.PrintLast Go.Proofs.Ytnpoimjdkjhcpaa.Com Go.Proofs.Ytnpoimjdkjhcpaa.Crc

theorem big_eq (l : List Int) : laws_big.f l = some (decide ((l.length : Int) > 1048576)) := rfl

theorem at_ex (l : List Int) (i : Nat) (hi : i < 1000000) (hl : (l.length : Int) ≤ 1048576) (hw : ∀ x ∈ l, (Lit.int .u8 x).wf = true) : ∃ n : Nat, n < 256 ∧ laws_at.f l (i : Int) = some (n : Int) := by
  unfold laws_at.f
  by_cases h : i < l.length
  · have hb := wfb (hw _ (rd_mem h))
    refine ⟨(rd l (i : Int)).toNat, by omega, ?_⟩
    rw [if_pos (by omega), if_pos (by omega), w64 (by omega) (by omega), Int.toNat_of_nonneg hb.1]
  · refine ⟨(i * 7 + l.length) % 256, by omega, ?_⟩
    rw [if_neg (by omega), w64 (n := (i : Int) * 7) (by omega) (by omega), w64 (by omega) (by omega)]
    congr 1

theorem l1New_l0 (l : List Int) (hl : l.length ≤ 1048576) : ∀ (d i : Nat) (h : Int), i + d = l.length → ∃ h', Ev (fun k => spec_l1New.l0 k l h (i : Int)) (l, 0, h') := by
  intro d
  induction d with
  | zero =>
    intro i h hd
    exact ⟨h, Ev.fin (fun k => by rw [spec_l1New.l0, if_neg (by omega)])⟩
  | succ d ih =>
    intro i h hd
    by_cases h4 : i < 4000
    · obtain ⟨h', e⟩ := ih (i + 1) _ (by omega)
      exact ⟨h', Ev.step (fun k => by rw [spec_l1New.l0, if_pos (by omega), if_pos (by omega), if_pos (by omega), wsucc (by omega)]) e⟩
    · exact ⟨h, Ev.fin (fun k => by rw [spec_l1New.l0, if_pos (by omega), if_neg (by omega)])⟩
theorem l1New_ex (l : List Int) (hl : l.length ≤ 1048576) (hw : Bytes l) : ∃ h, CurOk l 0 ∧ Ev (fun k => spec_l1New.f k l) (l, 0, h) := by
  obtain ⟨h, e⟩ := l1New_l0 l hl l.length 0 (wrap64 (71933 + (l.length : Int))) (by omega)
  exact ⟨h, ⟨by omega, by omega, hl, hw⟩, e⟩

theorem l1Byte_ex (s : List Int) (i h : Int) (hc : CurOk s i) : ∃ (x : Nat) (i' h' : Int), x < 256 ∧ CurOk s i' ∧ spec_l1Byte.f s i h = some ((x : Int), i', h') := by
  obtain ⟨h0, h1, h2, h3⟩ := hc
  unfold spec_l1Byte.f
  simp only [and64_255]
  by_cases hi : i < (s.length : Int)
  · rw [if_pos hi, if_pos h0]
    refine ⟨(wrap64 (bits .xor .i64 (wrap64 (wrap64 (h * 6364136223846793005) + 1442695040888963407) / 8589934592) (wrap64 (wrap64 (h * 6364136223846793005) + 1442695040888963407) / 35184372088832) % 256 + wrap64 (rd s i)) % 256).toNat, wrap64 (i + 1), wrap64 (wrap64 (h * 6364136223846793005) + 1442695040888963407), by omega, ⟨?_, ?_, h2, h3⟩, ?_⟩
    · rw [w64 (by omega) (by omega)]; omega
    · rw [w64 (by omega) (by omega)]; omega
    · rw [Int.toNat_of_nonneg (by omega)]
  · rw [if_neg hi]
    refine ⟨(bits .xor .i64 (wrap64 (wrap64 (h * 6364136223846793005) + 1442695040888963407) / 8589934592) (wrap64 (wrap64 (h * 6364136223846793005) + 1442695040888963407) / 35184372088832) % 256).toNat, i, wrap64 (wrap64 (h * 6364136223846793005) + 1442695040888963407), by omega, ⟨h0, h1, h2, h3⟩, ?_⟩
    rw [Int.toNat_of_nonneg (by omega)]

theorem l1Below_ex (s : List Int) (i h n : Int) (hc : CurOk s i) : ∃ (x : Nat) (i' h' : Int), ((x : Int) < n ∨ n ≤ 0 ∧ x = 0) ∧ CurOk s i' ∧ spec_l1Below.f s i h n = some ((x : Int), i', h') := by
  unfold spec_l1Below.f
  by_cases hn : n ≤ 0
  · exact ⟨0, i, h, .inr ⟨hn, rfl⟩, hc, by rw [if_pos hn]; rfl⟩
  rw [if_neg hn]
  obtain ⟨x, i1, h1, hx, c1, e1⟩ := l1Byte_ex s i h hc
  by_cases hn2 : n ≤ 256
  · rw [if_pos hn2, e1, Option.bind_some, if_neg (by omega)]
    have := Int.emod_lt_of_pos (x : Int) (show 0 < n by omega)
    have := Int.emod_nonneg (x : Int) (show n ≠ 0 by omega)
    refine ⟨((x : Int) % n).toNat, i1, h1, .inl (by omega), c1, ?_⟩
    rw [Int.tmod_eq_emod_of_nonneg (by omega), Int.toNat_of_nonneg (by omega)]
  · rw [if_neg hn2]
    obtain ⟨y, i2, h2, hy, c2, e2⟩ := l1Byte_ex s i1 h1 c1
    obtain ⟨z, i3, h3, hz, c3, e3⟩ := l1Byte_ex s i2 h2 c2
    obtain ⟨w, i4, h4, hw, c4, e4⟩ := l1Byte_ex s i3 h3 c3
    simp only [e1, e2, e3, e4, Option.bind_some]
    rw [if_neg (by omega), w64 (n := (x : Int) * 16777216) (by omega) (by omega), w64 (n := (y : Int) * 65536) (by omega) (by omega), w64 (n := (z : Int) * 256) (by omega) (by omega)]
    rw [w64 (n := (x : Int) * 16777216 + (y : Int) * 65536) (by omega) (by omega), w64 (n := (x : Int) * 16777216 + (y : Int) * 65536 + (z : Int) * 256) (by omega) (by omega), w64 (by omega) (by omega)]
    generalize hv : (x : Int) * 16777216 + (y : Int) * 65536 + (z : Int) * 256 + (w : Int) = v
    have hv0 : 0 ≤ v := by omega
    have := Int.emod_lt_of_pos v (show 0 < n by omega)
    have := Int.emod_nonneg v (show n ≠ 0 by omega)
    refine ⟨(v % n).toNat, i4, h4, .inl (by omega), c4, ?_⟩
    rw [Int.tmod_eq_emod_of_nonneg hv0, Int.toNat_of_nonneg (by omega)]

theorem l1Once_ex (s : List Int) (i h n : Int) (hc : CurOk s i) : ∃ (b : Bool) (i' h' : Int), CurOk s i' ∧ spec_l1Once.f s i h n = some (b, i', h') := by
  obtain ⟨x, i1, h1, _, c1, e1⟩ := l1Below_ex s i h n hc
  refine ⟨((x : Int) == 0), i1, h1, c1, ?_⟩
  unfold spec_l1Once.f
  rw [e1, Option.bind_some]

theorem l1Size_ex (l : List Int) (hl : l.length ≤ 1048576) (m : Int) (hm : 2 ≤ m) : ∃ t : Nat, 2 ≤ t ∧ (t : Int) ≤ m ∧ spec_l1Size.f l m = some (t : Int) := by
  unfold spec_l1Size.f
  rw [w64 (n := (l.length : Int) / 20) (by omega) (by omega), w64 (by omega) (by omega)]
  by_cases h : 2 + (l.length : Int) / 20 > m
  · exact ⟨m.toNat, by omega, by omega, by rw [if_pos h, Int.toNat_of_nonneg (by omega)]⟩
  · exact ⟨2 + l.length / 20, by omega, by omega, by rw [if_neg h]; congr 1⟩

theorem l14DrawBytes_l0 (n : Nat) (hn : n ≤ 1048576) (s : List Int) : ∀ (d j : Nat) (acc : List Int) (i h : Int), j + d = n → acc.length = j → Bytes acc → CurOk s i →
    ∃ r i' h', r.length = n ∧ Bytes r ∧ CurOk s i' ∧ Ev (fun k => spec_l14DrawBytes.l0 k (n : Int) acc (j : Int) s i h) (r, i', h') := by
  intro d
  induction d with
  | zero =>
    intro j acc i h hd ha hb hc
    exact ⟨acc, i, h, by omega, hb, hc, Ev.fin (fun k => by rw [spec_l14DrawBytes.l0, if_neg (by omega)])⟩
  | succ d ih =>
    intro j acc i h hd ha hb hc
    obtain ⟨x, i1, h1, hx, c1, e1⟩ := l1Byte_ex s i h hc
    obtain ⟨r, i2, h2, p1, p2, p3, e⟩ := ih (j + 1) (acc ++ [(x : Int) % 256]) i1 h1 (by omega) (by simp; omega) (hb.snoc (by omega)) c1
    refine ⟨r, i2, h2, p1, p2, p3, Ev.step (fun k => ?_) e⟩
    rw [spec_l14DrawBytes.l0, if_pos (by omega), e1, Option.bind_some, if_pos (by omega), wsucc (by omega)]
theorem l14DrawBytes_ex (s : List Int) (i h : Int) (n : Nat) (hn : n ≤ 1048576) (hc : CurOk s i) :
    ∃ r i' h', r.length = n ∧ Bytes r ∧ CurOk s i' ∧ Ev (fun k => spec_l14DrawBytes.f k s i h (n : Int)) (r, i', h') :=
  l14DrawBytes_l0 n hn s n 0 [] i h (by omega) rfl Bytes.nil hc

theorem DrawCrc16_ex (l : List Int) (hl : l.length ≤ 1048576) (hw : Bytes l) : ∃ r, r.length ≤ 70000 ∧ Bytes r ∧ Ev (fun k => spec_DrawCrc16.f k l) r := by
  obtain ⟨h, c0, e0⟩ := l1New_ex l hl hw
  obtain ⟨b, i1, h1, c1, e1⟩ := l1Once_ex l 0 h 80 c0
  unfold spec_DrawCrc16.f
  cases b with
  | true =>
    obtain ⟨x, i2, h2, hx, c2, e2⟩ := l1Below_ex l i1 h1 2 c1
    have ew : wrap64 (65536 + (x : Int)) = 65536 + (x : Int) := w64 (by omega) (by omega)
    refine ⟨List.replicate (65536 + (x : Int)).toNat 0, by simp; omega, ?_, Ev.bind e0 (Ev.bind0 e1 (Ev.pos rfl (Ev.bind0 e2 (Ev.pos (by rw [ew]; omega) (Ev.pos (by rw [ew]; omega) ?_)))))⟩
    · intro y hy
      rw [(List.mem_replicate.mp hy).2]
      exact byte_wf (by omega)
    · rw [ew]; exact Ev.now _
  | false =>
    obtain ⟨t, ht1, ht2, e2⟩ := l1Size_ex l hl 40 (by omega)
    obtain ⟨x, i3, h3, hx, c3, e3⟩ := l1Below_ex l i1 h1 (wrap64 (2 * (t : Int))) c1
    have ew : wrap64 (2 * (t : Int)) = 2 * (t : Int) := w64 (by omega) (by omega)
    rw [ew] at hx
    obtain ⟨r, i4, h4, p1, p2, _, e4⟩ := l14DrawBytes_ex l i3 h3 x (by omega) c3
    exact ⟨r, by omega, p2, Ev.bind e0 (Ev.bind0 e1 (Ev.neg (by simp) (Ev.bind0 e2 (Ev.bind0 e3 (Ev.bind e4 (Ev.now r))))))⟩

def toN (l : List Int) : List Nat := l.map Int.toNat
theorem toN_drop (l : List Int) (i : Nat) (h : i < l.length) : toN (l.drop i) = (rd l (i : Int)).toNat :: toN (l.drop (i + 1)) := by
  rw [drop_rd h]; rfl
theorem x4129 (x : Nat) (h : x < 9223372036854775808) : Go.bits .xor .i64 (x : Int) 4129 = ((x ^^^ 4129 : Nat) : Int) := xor64 x 4129 h (by decide)
theorem x69665 (x : Nat) (h : x < 9223372036854775808) : Go.bits .xor .i64 (x : Int) 69665 = ((x ^^^ 69665 : Nat) : Int) := xor64 x 69665 h (by decide)
def crcM (l : List Int) : Int := if (l.length : Int) > 65536 then 0 else ((crcL 65535 (toN l) : Nat) : Int)

theorem iCrc_l1 (l : List Int) (n : Int) (i : Nat) (r : Int) : ∀ (d j c : Nat), j + d = 8 → c < 65536 → Ev (fun k => impl_Crc16.l0 k ((csN d c : Nat) : Int) l n (wrap64 ((i : Int) + 1))) r →
    Ev (fun k => impl_Crc16.l1 k (c : Int) l n (i : Int) (j : Int)) r := by
  intro d
  induction d with
  | zero =>
    intro j c hd hc h
    refine Ev.step (fun k => ?_) h
    rw [impl_Crc16.l1, if_neg (by omega)]
    rfl
  | succ d ih =>
    intro j c hd hc h
    refine Ev.step (fun k => ?_) (ih (j + 1) (cs c) (by omega) (cs_lt hc) h)
    have e2 : wrap64 ((c : Int) * 2) = ((2 * c : Nat) : Int) := by rw [wr (by omega) (by omega)]; omega
    rw [impl_Crc16.l1, if_pos (by omega), e2, wsucc (by omega), x69665 _ (by omega)]
    unfold cs
    by_cases h1 : 2 * c ≥ 65536
    · rw [if_pos (by omega), if_pos h1]
    · rw [if_neg (by omega), if_neg h1]
theorem iCrc_l0 (l : List Int) (hl : l.length ≤ 65536) (hw : ∀ x ∈ l, (Lit.int .u8 x).wf = true) : ∀ (d i c : Nat), i + d = l.length → c < 65536 →
    Ev (fun k => impl_Crc16.l0 k (c : Int) l (l.length : Int) (i : Int)) ((crcL c (toN (l.drop i)) : Nat) : Int) := by
  intro d
  induction d with
  | zero =>
    intro i c hd hc
    refine Ev.fin (fun k => ?_)
    rw [impl_Crc16.l0, if_neg (by omega), List.drop_of_length_le (by omega)]
    rfl
  | succ d ih =>
    intro i c hd hc
    have hb := wfb (hw _ (rd_mem (xs := l) (i := i) (by omega)))
    obtain ⟨b, eb⟩ : ∃ b : Nat, rd l (i : Int) = b := ⟨(rd l (i : Int)).toNat, by omega⟩
    have hx : c ^^^ 256 * b < 65536 := Nat.xor_lt_two_pow (n := 16) hc (by omega)
    have h8 : Ev (fun k => impl_Crc16.l1 k ((c ^^^ 256 * b : Nat) : Int) l (l.length : Int) (i : Int) 0) ((crcL c (toN (l.drop i)) : Nat) : Int) := by
      refine iCrc_l1 l _ i _ 8 0 _ (by omega) hx ?_
      rw [wsucc (by omega), toN_drop l i (by omega), eb, Int.toNat_natCast, crcL_cons]
      exact ih (i + 1) (st c b) (by omega) (st_lt hc (by omega))
    refine Ev.step (fun k => ?_) h8
    have e2 : wrap64 (wrap64 (b : Int) * 256) = ((256 * b : Nat) : Int) := by rw [w64 (n := (b : Int)) (by omega) (by omega), w64 (by omega) (by omega)]; omega
    rw [impl_Crc16.l0, if_pos (by omega), if_pos (by omega), if_pos (by omega), eb, e2, xor64 _ _ (by omega) (by omega)]
theorem iCrc16_ev (l : List Int) (hw : ∀ x ∈ l, (Lit.int .u8 x).wf = true) : Ev (fun k => impl_Crc16.f k l) (crcM l) := by
  unfold impl_Crc16.f crcM
  by_cases h : (l.length : Int) > 65536
  · rw [if_pos h]; exact Ev.pos h (Ev.now 0)
  · rw [if_neg h]; exact Ev.neg h (iCrc_l0 l (by omega) hw l.length 0 65535 (by omega) (by omega))

theorem u8x (a b : Nat) (ha : a < 256) (hb : b < 256) : Go.bits .xor .u8 (a : Int) (b : Int) = ((a ^^^ b : Nat) : Int) := u8_xor_nat a b ha hb
theorem toN_app (l m : List Int) : toN (l ++ m) = toN l ++ toN m := by simp [toN]
theorem crc_turned (l : List Int) (hw : Bytes l) (k : Nat) (hk : k < l.length) (hl : l.length ≤ 65536) (x : Int) (hx : x.toNat ≠ (rd l (k : Int)).toNat) : crcM l ≠ crcM (l.set k x) := by
  unfold crcM
  rw [if_neg (by omega), if_neg (by simp; omega)]
  have e1 : l = l.take k ++ rd l (k : Int) :: l.drop (k + 1) := by rw [← drop_rd hk, List.take_append_drop]
  have e2 : l.set k x = l.take k ++ x :: l.drop (k + 1) := by
    rw [List.set_eq_take_append_cons_drop, if_pos hk]
  rw [e2]
  intro h
  rw [e1] at h
  have e3 : (l.take k ++ rd l (k : Int) :: l.drop (k + 1)).take k = l.take k := by rw [← e1]
  have e4 : (l.take k ++ rd l (k : Int) :: l.drop (k + 1)).drop (k + 1) = l.drop (k + 1) := by rw [← e1]
  rw [e3, e4, toN_app, toN_app] at h
  exact crcL_turned (toN (l.take k)) (toN (l.drop (k + 1))) 65535 _ _ (fun e => hx e.symm) (by exact_mod_cast h)
theorem crc_say : crcM [49, 50, 51, 52, 53, 54, 55, 56, 57] = 10673 := by decide +kernel
theorem xor_ne (v d : Nat) (hd : d ≠ 0) : v ^^^ d ≠ v := by
  intro e
  have e2 : v ^^^ (v ^^^ d) = v ^^^ v := by rw [e]
  rw [← Nat.xor_assoc, Nat.xor_self, Nat.zero_xor] at e2
  exact hd e2
theorem crc_em (a0 a1 n : Nat) (h0 : a0 < 256) (h1 : a1 < 256) : Int.tmod (wrap64 (wrap64 ((a0 : Int) * 256) + (a1 : Int))) (n : Int) = (((a0 * 256 + a1) % n : Nat) : Int) := by
  have ew : wrap64 (wrap64 ((a0 : Int) * 256) + (a1 : Int)) = ((a0 * 256 + a1 : Nat) : Int) := by
    rw [w64 (n := (a0 : Int) * 256) (by omega) (by omega), w64 (by omega) (by omega)]; omega
  rw [ew]; rfl
theorem crc_ey (a2 : Nat) (h : a2 < 256) : wrap64 (1 + Int.tmod (a2 : Int) 255) % 256 = ((1 + a2 % 255 : Nat) : Int) := by
  rw [show Int.tmod (a2 : Int) 255 = ((a2 % 255 : Nat) : Int) from rfl, w64 (by omega) (by omega)]; omega
theorem crc_rest (l : List Int) (hl : l.length ≤ 1048576) (hw : Bytes l) (b : List Int) (hb : Bytes b) (h0 : b.length ≠ 0) (h1 : b.length ≤ 65536) : Ev (fun k => laws_FnCrc.j0 k l b) true := by
  obtain ⟨a0, ha0, ea0⟩ := at_ex l 0 (by omega) (by omega) hw
  obtain ⟨a1, ha1, ea1⟩ := at_ex l 1 (by omega) (by omega) hw
  obtain ⟨a2, ha2, ea2⟩ := at_ex l 2 (by omega) (by omega) hw
  have hk : (a0 * 256 + a1) % b.length < b.length := Nat.mod_lt _ (Nat.pos_of_ne_zero h0)
  have em := crc_em a0 a1 b.length ha0 ha1
  generalize (a0 * 256 + a1) % b.length = k at em hk
  have ey := crc_ey a2 ha2
  have hy : 1 + a2 % 255 < 256 ∧ 1 + a2 % 255 ≠ 0 := ⟨by clear em ey; omega, Nat.add_one_ne_zero _ |> fun h => by rw [Nat.add_comm]; exact h⟩
  generalize 1 + a2 % 255 = d at ey hy
  have hr := wfb (hb _ (rd_mem hk))
  obtain ⟨v, ev⟩ : ∃ v : Nat, rd b (k : Int) = v := ⟨(rd b (k : Int)).toNat, (Int.toNat_of_nonneg hr.1).symm⟩
  have hv : v < 256 := by rw [ev] at hr; clear em ey; omega
  have hx : Go.bits .xor .u8 (rd b (k : Int)) (wrap64 (1 + Int.tmod (a2 : Int) 255) % 256) = ((v ^^^ d : Nat) : Int) := by
    rw [ey, ev, u8x v _ hv hy.1]
  have hlt : v ^^^ d < 256 := Nat.xor_lt_two_pow (n := 8) hv hy.1
  have hne : crcM b ≠ crcM (b.set k ((v ^^^ d : Nat) : Int)) := by
    refine crc_turned b hb k hk h1 _ ?_
    rw [ev, Int.toNat_natCast, Int.toNat_natCast]
    exact xor_ne v d hy.2
  have hb2 : Bytes (b.set k ((v ^^^ d : Nat) : Int)) := by
    intro z hz
    rcases List.mem_or_eq_of_mem_set hz with hz | rfl
    · exact hb z hz
    · exact byte_wf ⟨Int.natCast_nonneg _, by clear em ey hx hne; omega⟩
  have h2 : ¬ ((b.length : Nat) : Int) = 0 := by clear em ey hx; omega
  have h3 : ([] : List Int).length + b.length < 140737488355328 := by rw [List.length_nil]; clear em ey hx; omega
  have h4 : (k : Int) < (b.length : Int) := Int.ofNat_lt.2 hk
  have all : Ev (fun q => (some (([] : List Int) : List Int)).bind fun y166 => (if y166.length + b.length < 140737488355328 then ((some (y166 ++ b : List Int)).bind fun y169 => ((laws_at.f l 0).bind fun t172 => ((laws_at.f l 1).bind fun t173 => (if (b.length : Int) = 0 then (none) else (if 0 ≤ (Int.tmod (wrap64 ((wrap64 (t172 * 256)) + t173)) (b.length : Int)) then (if (Int.tmod (wrap64 ((wrap64 (t172 * 256)) + t173)) (b.length : Int)) < (y169.length : Int) then ((laws_at.f l 2).bind fun t175 => ((impl_Crc16.f q b).bind fun t177 => ((impl_Crc16.f q (y169.set ((Int.tmod (wrap64 ((wrap64 (t172 * 256)) + t173)) (b.length : Int)) : Int).toNat (Go.bits .xor .u8 (rd y169 (Int.tmod (wrap64 ((wrap64 (t172 * 256)) + t173)) (b.length : Int))) ((wrap64 (1 + (Int.tmod t175 255))) % 256)))).bind fun t178 => (if t177 = t178 then (some false) else ((impl_Crc16.f q (([49, 50, 51, 52, 53, 54, 55, 56, 57] : List Int))).bind fun t182 => (some (t182 == 10673))))))) else (none)) else (none)))))) else (none))) true := by
    refine Ev.bind0 rfl (Ev.pos h3 (Ev.bind0 rfl (Ev.bind0 ea0 (Ev.bind0 ea1 (Ev.neg h2 ?_)))))
    rw [em, List.nil_append]
    refine Ev.pos (Int.natCast_nonneg k) (Ev.pos h4 (Ev.bind0 ea2 (Ev.bind (iCrc16_ev b hb) ?_)))
    rw [hx, Int.toNat_natCast]
    refine Ev.bind (iCrc16_ev _ hb2) (Ev.neg hne ?_)
    refine Ev.bind (iCrc16_ev [49, 50, 51, 52, 53, 54, 55, 56, 57] (by intro z hz; simp only [List.mem_cons, List.not_mem_nil, or_false] at hz; exact byte_wf (by clear em ey hx hne; omega))) ?_
    rw [crc_say]
    exact Ev.now true
  exact Ev.step (fun q => by rw [laws_FnCrc.j0]) all
theorem FnCrc : laws_FnCrc.Pure := by
  intro l _ _ hw
  refine Ev.rounds ?_
  unfold laws_FnCrc.f
  simp only [big_eq, Option.bind_some]
  by_cases hb : (l.length : Int) > 1048576
  · exact Ev.pos (by simpa using hb) (Ev.now true)
  refine Ev.neg (by simpa using hb) ?_
  obtain ⟨r, h1, h2, e⟩ := DrawCrc16_ex l (by omega) hw
  refine Ev.bind e (Ev.pos (by omega) (Ev.bind0 rfl ?_))
  by_cases hbig : ((r ++ [7]).length : Int) > 65536
  · exact Ev.pos hbig (crc_rest l (by omega) hw [7] (Bytes.nil.snoc (by omega)) (by simp) (by simp))
  · exact Ev.neg hbig (crc_rest l (by omega) hw (r ++ [7]) (h2.snoc (by omega)) (by simp) (by omega))

end Go.Proofs.Ytnpoimjdkjhcpaa.Pure
