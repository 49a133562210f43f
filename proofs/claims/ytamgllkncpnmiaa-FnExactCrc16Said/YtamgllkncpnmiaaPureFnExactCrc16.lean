/- Crc16 tells what the reference tells and leaves its argument alone, for every list of bytes; no condition. -/
import Derived.Test.YtamgllkncpnmiaaPFnExactCrc16x1
import Derived.Test.YtamgllkncpnmiaaCom
import Derived.Test.YtamgllkncpnmiaaCrc
set_option linter.unusedVariables false
set_option linter.unusedSimpArgs false
namespace Go.Proofs.Ytamgllkncpnmiaa.Pure
open Go.RowKit Go.Proofs.Ytamgllkncpnmiaa.PFnExactCrc16 Go.Proofs.YtamgllkncpnmiaaW.PrintWords Go.Proofs.YtamgllkncpnmiaaW.PrintLast Go.Proofs.Ytamgllkncpnmiaa.Com Go.Proofs.Ytamgllkncpnmiaa.Crc

theorem toByteS_l0 (l : List Int) (hl : l.length ≤ 17592186044416) : ∀ (d i : Nat) (x : List Int), i + d = l.length → x.length = l.length → x.take i = l.take i →
    Ev (fun k => laws_toByteS.l0 k l x (i : Int)) l := by
  intro d
  induction d with
  | zero =>
    intro i x hd hx ht
    refine Ev.fin (fun k => ?_)
    rw [laws_toByteS.l0, if_neg (by omega)]
    rw [List.take_of_length_le (by omega), List.take_of_length_le (by omega)] at ht
    rw [ht]
  | succ d ih =>
    intro i x hd hx ht
    refine Ev.step (fun k => ?_) (ih (i + 1) (x.set i (rd l (i : Int))) (by omega) (by simpa using hx) ?_)
    · rw [laws_toByteS.l0, if_pos (by omega), if_pos (by omega), if_pos (by omega), wsucc (by omega), Int.toNat_natCast]
    · rw [take_rd (by simp; omega), take_rd (by omega), List.take_set_of_le (by omega), ht, rd_lt (by simp; omega), List.getElem_set_self]
theorem toByteS_ev (l : List Int) (hl : l.length ≤ 17592186044416) : Ev (fun k => laws_toByteS.f k l) l := by
  unfold laws_toByteS.f
  refine Ev.pos (by omega) (Ev.pos (by omega) ?_)
  exact toByteS_l0 l hl l.length 0 _ (by omega) (by simp) (by simp)

theorem eqByteS_l0 (l : List Int) (hl : l.length ≤ 17592186044416) : ∀ (d i : Nat), i + d = l.length → Ev (fun k => laws_eqByteS.l0 k l l (i : Int)) true := by
  intro d
  induction d with
  | zero =>
    intro i hd
    refine Ev.fin (fun k => ?_)
    rw [laws_eqByteS.l0, if_neg (by omega)]
  | succ d ih =>
    intro i hd
    refine Ev.step (fun k => ?_) (ih (i + 1) (by omega))
    rw [laws_eqByteS.l0, if_pos (by omega), if_pos (by omega), if_pos (by omega), if_pos rfl, wsucc (by omega)]
theorem eqByteS_ev (l : List Int) (hl : l.length ≤ 17592186044416) : Ev (fun k => laws_eqByteS.f k l l) true := by
  unfold laws_eqByteS.f
  exact Ev.pos rfl (eqByteS_l0 l hl l.length 0 (by omega))

def toN (l : List Int) : List Nat := l.map Int.toNat
theorem toN_drop (l : List Int) (i : Nat) (h : i < l.length) : toN (l.drop i) = (rd l (i : Int)).toNat :: toN (l.drop (i + 1)) := by
  rw [drop_rd h]; rfl
theorem x4129 (x : Nat) (h : x < 9223372036854775808) : Go.bits .xor .i64 (x : Int) 4129 = ((x ^^^ 4129 : Nat) : Int) := xor64 x 4129 h (by decide)
theorem x69665 (x : Nat) (h : x < 9223372036854775808) : Go.bits .xor .i64 (x : Int) 69665 = ((x ^^^ 69665 : Nat) : Int) := xor64 x 69665 h (by decide)
def crcM (l : List Int) : Int := if (l.length : Int) > 65536 then 0 else ((crcL 65535 (toN l) : Nat) : Int)

theorem sCrc_l1 (l : List Int) (i : Nat) (r : Int) : ∀ (d j c : Nat), j + d = 8 → c < 65536 → Ev (fun k => spec_Crc16.l0 k l ((csN d c : Nat) : Int) (wrap64 ((i : Int) + 1))) r →
    Ev (fun k => spec_Crc16.l1 k l (c : Int) (i : Int) (j : Int)) r := by
  intro d
  induction d with
  | zero =>
    intro j c hd hc h
    refine Ev.step (fun k => ?_) h
    rw [spec_Crc16.l1, if_neg (by omega)]
    rfl
  | succ d ih =>
    intro j c hd hc h
    refine Ev.step (fun k => ?_) (ih (j + 1) (cs c) (by omega) (cs_lt hc) h)
    have e2 : wrap64 (2 * (c : Int)) = ((2 * c : Nat) : Int) := by rw [wr (by omega) (by omega)]; omega
    rw [spec_Crc16.l1, if_pos (by omega), e2, wsucc (by omega), x4129 _ (by omega)]
    unfold cs
    by_cases h1 : 2 * c ≥ 65536
    · have hx := (spl_ok h1 hc).2
      have hlt := cs_lt hc
      unfold cs at hlt
      rw [if_pos h1, cs_split h1 hc] at hlt
      rw [if_pos (by omega), if_pos h1, cs_split h1 hc, hx]
      congr 1
      have : Int.tmod ((65536 + ((2 * c - 65536) ^^^ 4129) : Nat) : Int) 65536 = (((65536 + ((2 * c - 65536) ^^^ 4129)) % 65536 : Nat) : Int) := rfl
      rw [this]
      omega
    · rw [if_neg (by omega), if_neg h1]
      congr 1
      have : Int.tmod ((2 * c : Nat) : Int) 65536 = ((2 * c % 65536 : Nat) : Int) := rfl
      rw [this]
      omega
theorem sCrc_l0 (l : List Int) (hl : l.length ≤ 65536) (hw : ∀ x ∈ l, (Lit.int .u8 x).wf = true) : ∀ (d i c : Nat), i + d = l.length → c < 65536 →
    Ev (fun k => spec_Crc16.l0 k l (c : Int) (i : Int)) ((crcL c (toN (l.drop i)) : Nat) : Int) := by
  intro d
  induction d with
  | zero =>
    intro i c hd hc
    refine Ev.fin (fun k => ?_)
    rw [spec_Crc16.l0, if_neg (by omega), List.drop_of_length_le (by omega)]
    rfl
  | succ d ih =>
    intro i c hd hc
    have hb := wfb (hw _ (rd_mem (xs := l) (i := i) (by omega)))
    obtain ⟨b, eb⟩ : ∃ b : Nat, rd l (i : Int) = b := ⟨(rd l (i : Int)).toNat, by omega⟩
    have hx : c ^^^ 256 * b < 65536 := Nat.xor_lt_two_pow (n := 16) hc (by omega)
    have h8 : Ev (fun k => spec_Crc16.l1 k l ((c ^^^ 256 * b : Nat) : Int) (i : Int) 0) ((crcL c (toN (l.drop i)) : Nat) : Int) := by
      refine sCrc_l1 l i _ 8 0 _ (by omega) hx ?_
      rw [wsucc (by omega), toN_drop l i (by omega), eb, Int.toNat_natCast, crcL_cons]
      exact ih (i + 1) (st c b) (by omega) (st_lt hc (by omega))
    refine Ev.step (fun k => ?_) h8
    have e2 : wrap64 (256 * wrap64 (b : Int)) = ((256 * b : Nat) : Int) := by rw [w64 (n := (b : Int)) (by omega) (by omega), w64 (by omega) (by omega)]; omega
    rw [spec_Crc16.l0, if_pos (by omega), if_pos (by omega), eb, e2, xor64 _ _ (by omega) (by omega)]
theorem sCrc16_ev (l : List Int) (hw : ∀ x ∈ l, (Lit.int .u8 x).wf = true) : Ev (fun k => spec_Crc16.f k l) (crcM l) := by
  unfold spec_Crc16.f crcM
  by_cases h : (l.length : Int) > 65536
  · rw [if_pos h]; exact Ev.pos h (Ev.now 0)
  · rw [if_neg h]; exact Ev.neg h (sCrc_l0 l (by omega) hw l.length 0 65535 (by omega) (by omega))

theorem iCrc_l1 (l : List Int) (n : Int) (i : Nat) (r : Int) : ∀ (d j c : Nat), j + d = 8 → c < 65536 → Ev (fun k => impl_Crc16.l0 k ((csN d c : Nat) : Int) l n (wrap64 ((i : Int) + 1))) r →
    Ev (fun k => impl_Crc16.l1 k (c : Int) l n (i : Int) (j : Int)) r := by
  intro d
  induction d with
  | zero =>
    intro j c hd hc h
    refine Ev.step (fun k => ?_) h
    rw [impl_Crc16.l1, if_neg (by omega)]
    rfl
  | succ d ih =>
    intro j c hd hc h
    refine Ev.step (fun k => ?_) (ih (j + 1) (cs c) (by omega) (cs_lt hc) h)
    have e2 : wrap64 ((c : Int) * 2) = ((2 * c : Nat) : Int) := by rw [wr (by omega) (by omega)]; omega
    rw [impl_Crc16.l1, if_pos (by omega), e2, wsucc (by omega), x69665 _ (by omega)]
    unfold cs
    by_cases h1 : 2 * c ≥ 65536
    · rw [if_pos (by omega), if_pos h1]
    · rw [if_neg (by omega), if_neg h1]
theorem iCrc_l0 (l : List Int) (hl : l.length ≤ 65536) (hw : ∀ x ∈ l, (Lit.int .u8 x).wf = true) : ∀ (d i c : Nat), i + d = l.length → c < 65536 →
    Ev (fun k => impl_Crc16.l0 k (c : Int) l (l.length : Int) (i : Int)) ((crcL c (toN (l.drop i)) : Nat) : Int) := by
  intro d
  induction d with
  | zero =>
    intro i c hd hc
    refine Ev.fin (fun k => ?_)
    rw [impl_Crc16.l0, if_neg (by omega), List.drop_of_length_le (by omega)]
    rfl
  | succ d ih =>
    intro i c hd hc
    have hb := wfb (hw _ (rd_mem (xs := l) (i := i) (by omega)))
    obtain ⟨b, eb⟩ : ∃ b : Nat, rd l (i : Int) = b := ⟨(rd l (i : Int)).toNat, by omega⟩
    have hx : c ^^^ 256 * b < 65536 := Nat.xor_lt_two_pow (n := 16) hc (by omega)
    have h8 : Ev (fun k => impl_Crc16.l1 k ((c ^^^ 256 * b : Nat) : Int) l (l.length : Int) (i : Int) 0) ((crcL c (toN (l.drop i)) : Nat) : Int) := by
      refine iCrc_l1 l _ i _ 8 0 _ (by omega) hx ?_
      rw [wsucc (by omega), toN_drop l i (by omega), eb, Int.toNat_natCast, crcL_cons]
      exact ih (i + 1) (st c b) (by omega) (st_lt hc (by omega))
    refine Ev.step (fun k => ?_) h8
    have e2 : wrap64 (wrap64 (b : Int) * 256) = ((256 * b : Nat) : Int) := by rw [w64 (n := (b : Int)) (by omega) (by omega), w64 (by omega) (by omega)]; omega
    rw [impl_Crc16.l0, if_pos (by omega), if_pos (by omega), if_pos (by omega), eb, e2, xor64 _ _ (by omega) (by omega)]
theorem iCrc16_ev (l : List Int) (hw : ∀ x ∈ l, (Lit.int .u8 x).wf = true) : Ev (fun k => impl_Crc16.f k l) (crcM l) := by
  unfold impl_Crc16.f crcM
  by_cases h : (l.length : Int) > 65536
  · rw [if_pos h]; exact Ev.pos h (Ev.now 0)
  · rw [if_neg h]; exact Ev.neg h (iCrc_l0 l (by omega) hw l.length 0 65535 (by omega) (by omega))

theorem FnExactCrc16 : laws_FnExactCrc16.Pure := by
  intro l _ hl hw
  refine Ev.rounds ?_
  unfold laws_FnExactCrc16.f
  by_cases hb : (l.length : Int) > 1048576
  · exact Ev.pos hb (Ev.now true)
  · have h : l.length ≤ 17592186044416 := by omega
    refine Ev.neg hb (Ev.bind (toByteS_ev l h) (Ev.bind (sCrc16_ev l hw) (Ev.bind (toByteS_ev l h) (Ev.bind (iCrc16_ev l hw) (Ev.pos rfl (Ev.bind (toByteS_ev l h) (Ev.bind (eqByteS_ev l h) (Ev.pos rfl (Ev.now true)))))))))

end Go.Proofs.Ytamgllkncpnmiaa.Pure
