/- RsOk tells what the reference tells and leaves its argument alone, for all arguments; no condition. -/
import Derived.Test.YtdcjfcfiflpblaaQFnExactRsOkx3
import Derived.Test.YtdcjfcfiflpblaaCom
import Derived.Test.YtdcjfcfiflpblaaGf
set_option linter.unusedVariables false
set_option linter.unusedSimpArgs false
namespace Go.Proofs.Ytdcjfcfiflpblaa.Pure
open Go.RowKit Go.Proofs.Ytdcjfcfiflpblaa.PFnExactRsOk Go.Proofs.YtdcjfcfiflpblaaW.PrintWords Go.Proofs.YtdcjfcfiflpblaaW.PrintLast Go.Proofs.Ytdcjfcfiflpblaa.Com Go.Proofs.Ytdcjfcfiflpblaa.Gf

theorem toByteS_l0 (l : List Int) (hl : l.length ≤ 17592186044416) : ∀ (d i : Nat) (x : List Int), i + d = l.length → x.length = l.length → x.take i = l.take i →
    Ev (fun k => laws_toByteS.l0 k l x (i : Int)) l := by
  intro d
  induction d with
  | zero =>
    intro i x hd hx ht
    refine Ev.fin (fun k => ?_)
    rw [laws_toByteS.l0, if_neg (by omega)]
    rw [List.take_of_length_le (by omega), List.take_of_length_le (by omega)] at ht
    rw [ht]
  | succ d ih =>
    intro i x hd hx ht
    refine Ev.step (fun k => ?_) (ih (i + 1) (x.set i (rd l (i : Int))) (by omega) (by simpa using hx) ?_)
    · rw [laws_toByteS.l0, if_pos (by omega), if_pos (by omega), if_pos (by omega), wsucc (by omega), Int.toNat_natCast]
    · rw [take_rd (by simp; omega), take_rd (by omega), List.take_set_of_le (by omega), ht, rd_lt (by simp; omega), List.getElem_set_self]
theorem toByteS_ev (l : List Int) (hl : l.length ≤ 17592186044416) : Ev (fun k => laws_toByteS.f k l) l := by
  unfold laws_toByteS.f
  refine Ev.pos (by omega) (Ev.pos (by omega) ?_)
  exact toByteS_l0 l hl l.length 0 _ (by omega) (by simp) (by simp)

theorem eqByteS_l0 (l : List Int) (hl : l.length ≤ 17592186044416) : ∀ (d i : Nat), i + d = l.length → Ev (fun k => laws_eqByteS.l0 k l l (i : Int)) true := by
  intro d
  induction d with
  | zero =>
    intro i hd
    refine Ev.fin (fun k => ?_)
    rw [laws_eqByteS.l0, if_neg (by omega)]
  | succ d ih =>
    intro i hd
    refine Ev.step (fun k => ?_) (ih (i + 1) (by omega))
    rw [laws_eqByteS.l0, if_pos (by omega), if_pos (by omega), if_pos (by omega), if_pos rfl, wsucc (by omega)]
theorem eqByteS_ev (l : List Int) (hl : l.length ≤ 17592186044416) : Ev (fun k => laws_eqByteS.f k l l) true := by
  unfold laws_eqByteS.f
  exact Ev.pos rfl (eqByteS_l0 l hl l.length 0 (by omega))

theorem isByte_eq (a : Int) : impl_isByte.f a = some (decide (0 ≤ a ∧ a ≤ 255)) := by
  unfold impl_isByte.f
  by_cases h : 0 ≤ a
  · rw [if_pos h]; simp [h]
  · rw [if_neg h]; simp [h]

theorem iGfMul_l0 : ∀ (n a b r : Nat), a < 256 → b < 2 ^ n → n ≤ 8 → r < 256 → Ev (fun k => impl_GfMul.l0 k (a : Int) (b : Int) (r : Int)) ((r ^^^ gmF n a b : Nat) : Int) := by
  intro n
  induction n with
  | zero =>
    intro a b r _ hb _ _
    refine Ev.fin (fun k => ?_)
    rw [impl_GfMul.l0, if_neg (by omega)]
    show some (r : Int) = some ((r ^^^ 0 : Nat) : Int)
    rw [Nat.xor_zero]
  | succ n ih =>
    intro a b r ha hb hn hr
    by_cases h0 : b = 0
    · refine Ev.fin (fun k => ?_)
      rw [impl_GfMul.l0, if_neg (by omega), h0, gmF_zero, Nat.xor_zero]
    · have hp : 2 ^ (n + 1) = 2 * 2 ^ n := by rw [Nat.pow_succ]; omega
      refine Ev.cast (Ev.step (fun k => ?_) (ih (xt a) (b / 2) (r ^^^ (if b % 2 = 1 then a else 0)) (xt_lt ha) (by omega) (by omega) (xor_lt hr (by split <;> omega)))) ?_
      · have e2 : wrap64 ((a : Int) * 2) = ((2 * a : Nat) : Int) := by rw [wr (by omega) (by omega)]; omega
        have e3 : (b : Int) / 2 = ((b / 2 : Nat) : Int) := by omega
        rw [impl_GfMul.l0, if_pos (by omega), and64_1, e2, e3, x285 _ (by omega), xor64 r a (by omega) (by omega)]
        unfold xt
        by_cases ho : b % 2 = 1 <;> by_cases hx : 2 * a > 255
        · rw [if_pos (by omega), if_pos (by omega), if_pos hx, if_pos ho]
        · rw [if_pos (by omega), if_neg (by omega), if_neg hx, if_pos ho]
        · rw [if_neg (by omega), if_pos (by omega), if_pos hx, if_neg ho, Nat.xor_zero]
        · rw [if_neg (by omega), if_neg (by omega), if_neg hx, if_neg ho, Nat.xor_zero]
      · show (((r ^^^ (if b % 2 = 1 then a else 0)) ^^^ gmF n (xt a) (b / 2) : Nat) : Int) = ((r ^^^ ((if b % 2 = 1 then a else 0) ^^^ gmF n (xt a) (b / 2)) : Nat) : Int)
        rw [Nat.xor_assoc]
theorem iGfMul_ev (a b : Int) : Ev (fun k => impl_GfMul.f k a b) (gmI a b) := by
  unfold impl_GfMul.f gmI
  simp only [isByte_eq, Option.bind_some]
  by_cases ha : 0 ≤ a ∧ a ≤ 255
  · refine Ev.pos (by simp [ha]) ?_
    by_cases hb : 0 ≤ b ∧ b ≤ 255
    · rw [if_pos ⟨ha.1, ha.2, hb⟩, decide_eq_true hb]
      obtain ⟨a, rfl⟩ : ∃ n : Nat, a = n := ⟨a.toNat, by omega⟩
      obtain ⟨b, rfl⟩ : ∃ n : Nat, b = n := ⟨b.toNat, by omega⟩
      refine Ev.cast (Ev.step (fun k => ?_) (iGfMul_l0 8 a b 0 (by omega) (by omega) (by omega) (by omega))) ?_
      · rw [impl_GfMul.j0]; rfl
      · rw [Nat.zero_xor]; rfl
    · rw [if_neg (by omega), decide_eq_false hb]
      refine Ev.fin (fun k => ?_)
      rw [impl_GfMul.j0]; rfl
  · rw [if_neg (by omega)]
    refine Ev.neg (by simpa using ha) (Ev.fin (fun k => ?_))
    rw [impl_GfMul.j0]; rfl

/-- The n-th power of 2 in the field. -/
def pwN (n : Nat) : Nat := xtN (n % 255) 1
theorem pwN_lt (n : Nat) : pwN n < 256 := xtN_lt _ (by omega)
theorem gm2 {a : Nat} (h : a < 256) : gmI (a : Int) 2 = ((xt a : Nat) : Int) := by
  have := gmI_nat h (show 2 < 256 by omega)
  rw [gm_comm h (by omega), xt_is h] at this
  exact this
theorem igfPow_l0 (n : Nat) (hn : n ≤ 255) : ∀ (d i : Nat), i + d = n → Ev (fun k => impl_gfPow.l0 k ((xtN i 1 : Nat) : Int) (n : Int) (i : Int)) ((xtN n 1 : Nat) : Int) := by
  intro d
  induction d with
  | zero =>
    intro i hd
    obtain rfl : i = n := by omega
    exact Ev.fin (fun k => by rw [impl_gfPow.l0, if_neg (by omega)])
  | succ d ih =>
    intro i hd
    refine Ev.step (fun k => by rw [impl_gfPow.l0, if_pos (by omega)]) (Ev.bind (iGfMul_ev _ _) ?_)
    rw [gm2 (xtN_lt i (by omega)), ← xtN_succ, wsucc (by omega)]
    exact ih (i + 1) (by omega)
theorem igfPow_ev (n : Nat) : Ev (fun k => impl_gfPow.f k (n : Int)) ((pwN n : Nat) : Int) := by
  unfold impl_gfPow.f pwN
  have e : Int.tmod (n : Int) 255 = ((n % 255 : Nat) : Int) := rfl
  rw [e]
  exact igfPow_l0 (n % 255) (by omega) (n % 255) 0 (by omega)

/-- A word (numbers of bytes) at w, from the state s on. -/
def valG (w : Nat) : Nat → List Int → Nat
  | s, [] => s
  | s, x :: t => valG w (gm s w ^^^ x.toNat) t
theorem valG_lt {w : Nat} (hw : w < 256) : ∀ (l : List Int) {s : Nat}, s < 256 → Bytes l → valG w s l < 256
  | [], _, hs, _ => hs
  | x :: t, s, hs, hl => by
    have hx := wfb (hl x List.mem_cons_self)
    exact valG_lt hw t (xor_lt (gm_lt w hs) (by omega)) (fun y hy => hl y (List.mem_cons_of_mem _ hy))
theorem ivalue_l0 (l : List Int) (w : Nat) (hw : w < 256) (hl : l.length ≤ 1048576) (hb : Bytes l) : ∀ (d i s : Nat), i + d = l.length → s < 256 → Ev (fun k => impl_value.l0 k (w : Int) (s : Int) l (l.length : Int) (i : Int)) ((valG w s (l.drop i) : Nat) : Int) := by
  intro d
  induction d with
  | zero =>
    intro i s hd hs
    rw [List.drop_of_length_le (by omega)]
    exact Ev.fin (fun k => by rw [impl_value.l0, if_neg (by omega)]; rfl)
  | succ d ih =>
    intro i s hd hs
    have hx := wfb (hb _ (rd_mem (xs := l) (i := i) (by omega)))
    obtain ⟨x, ex⟩ : ∃ x : Nat, rd l (i : Int) = (x : Int) := ⟨(rd l (i : Int)).toNat, by omega⟩
    have hg := gm_lt w hs
    refine Ev.step (fun k => by rw [impl_value.l0, if_pos (by omega), if_pos (by omega), if_pos (by omega)]) (Ev.bind (iGfMul_ev _ _) ?_)
    rw [gmI_nat hs hw, ex, w64 (n := (x : Int)) (by omega) (by omega), xor64 _ _ (by omega) (by omega), wsucc (by omega), drop_rd (i := i) (by omega), ex]
    exact ih (i + 1) (gm s w ^^^ x) (by omega) (xor_lt hg (by omega))
def valP (l : List Int) (j : Nat) : Nat := valG (pwN j) 0 l
theorem ivalue_ev (l : List Int) (j : Nat) (hl : l.length ≤ 1048576) (hb : Bytes l) : Ev (fun k => impl_value.f k l (j : Int)) ((valP l j : Nat) : Int) := by
  unfold impl_value.f
  exact Ev.bind (igfPow_ev j) (ivalue_l0 l (pwN j) (pwN_lt j) hl hb l.length 0 0 (by omega) (by omega))
/-- Are the values at the powers j, j + 1, .. (d of them) all 0? -/
def cleanG (l : List Int) : Nat → Nat → Bool
  | 0, _ => true
  | d + 1, j => valP l j == 0 && cleanG l d (j + 1)
def wordB (l : List Int) (m : Int) : Bool := decide (1 ≤ m ∧ m ≤ 8 ∧ 2 * m < (l.length : Int) ∧ l.length ≤ 255)

theorem l1In_eq (a b c : Int) : spec_l1In.f a b c = some (decide (b ≤ a ∧ a ≤ c)) := by
  unfold spec_l1In.f
  by_cases h : b ≤ a
  · rw [if_pos h]; simp [h]
  · rw [if_neg h]; simp [h]

theorem l14Byte_eq (a : Int) : spec_l14Byte.f a = some (decide (0 ≤ a ∧ a ≤ 255)) := by
  unfold spec_l14Byte.f
  rw [l1In_eq, Option.bind_some]

theorem shr_nat (x y : Nat) (h : y ≤ 64) : shr .i64 (x : Int) (y : Int) = ((x / 2 ^ y : Nat) : Int) := by
  unfold shr
  rw [Int.toNat_natCast, show min y (IntKind.bits .i64) = y from Nat.min_eq_left h]
  exact (Int.natCast_ediv x (2 ^ y)).symm

theorem sGfMul_l0 (a b : Nat) (ha : a < 256) (hb : b < 256) : ∀ (n p : Nat), n ≤ 8 → p < 256 → Ev (fun k => spec_GfMul.l0 k (a : Int) (b : Int) (p : Int) ((n : Int) - 1)) ((xtN n p ^^^ gmF n a b : Nat) : Int) := by
  intro n
  induction n with
  | zero =>
    intro p _ _
    refine Ev.fin (fun k => ?_)
    rw [spec_GfMul.l0, if_neg (by omega)]
    show some (p : Int) = some ((p ^^^ 0 : Nat) : Int)
    rw [Nat.xor_zero]
  | succ n ih =>
    intro p hn hp
    have hx := xt_lt hp
    refine Ev.cast (Ev.step (fun k => ?_) (ih (xt p ^^^ (if b / 2 ^ n % 2 = 1 then a else 0)) (by omega) (xor_lt hx (by split <;> omega)))) ?_
    · have e2 : wrap64 (2 * (p : Int)) = ((2 * p : Nat) : Int) := by rw [wr (by omega) (by omega)]; omega
      have e1 : ((n + 1 : Nat) : Int) - 1 = (n : Int) := by omega
      have e3 : wrap64 ((n : Int) - 1) = (n : Int) - 1 := w64 (by omega) (by omega)
      have hq : b / 2 ^ n < 256 := Nat.lt_of_le_of_lt (Nat.div_le_self _ _) hb
      have e4 : Int.tmod ((b / 2 ^ n : Nat) : Int) 2 = ((b / 2 ^ n % 2 : Nat) : Int) := rfl
      have hxo : (2 * p) ^^^ 285 < 512 := Nat.xor_lt_two_pow (n := 9) (by omega) (by omega)
      rw [spec_GfMul.l0, e1, if_pos (by omega), e2, u64w (by omega) (by omega), shr_nat b n (by omega), e4, e3, x285 _ (by omega), xor64 (2 * p ^^^ 285) a (by omega) (by omega), xor64 (2 * p) a (by omega) (by omega)]
      unfold xt
      by_cases hc : 2 * p > 255 <;> by_cases ho : b / 2 ^ n % 2 = 1
      · rw [if_pos (by omega), if_pos (by omega), if_pos (by omega), if_pos hc, if_pos ho]
      · rw [if_pos (by omega), if_pos (by omega), if_neg (by omega), if_pos hc, if_neg ho, Nat.xor_zero]
      · rw [if_neg (by omega), if_pos (by omega), if_pos (by omega), if_neg hc, if_pos ho]
      · rw [if_neg (by omega), if_pos (by omega), if_neg (by omega), if_neg hc, if_neg ho, Nat.xor_zero]
    · rw [gmF_top, xtN_xor n hx (by split <;> omega)]
      show ((xtN n (xt p) ^^^ xtN n (if b / 2 ^ n % 2 = 1 then a else 0) ^^^ gmF n a b : Nat) : Int) = ((xtN n (xt p) ^^^ (gmF n a b ^^^ (if b / 2 ^ n % 2 = 1 then xtN n a else 0)) : Nat) : Int)
      rw [Nat.xor_assoc, Nat.xor_comm (gmF n a b)]
      congr 3
      split
      · rfl
      · exact xtN_zero n
theorem sGfMul_ev (a b : Int) : Ev (fun k => spec_GfMul.f k a b) (gmI a b) := by
  unfold spec_GfMul.f gmI
  simp only [l14Byte_eq, Option.bind_some]
  by_cases ha : 0 ≤ a ∧ a ≤ 255
  · refine Ev.pos (by simp [ha]) ?_
    by_cases hb : 0 ≤ b ∧ b ≤ 255
    · rw [if_pos ⟨ha.1, ha.2, hb⟩, decide_eq_true hb]
      obtain ⟨a, rfl⟩ : ∃ n : Nat, a = n := ⟨a.toNat, by omega⟩
      obtain ⟨b, rfl⟩ : ∃ n : Nat, b = n := ⟨b.toNat, by omega⟩
      refine Ev.cast (Ev.step (fun k => ?_) (sGfMul_l0 a b (by omega) (by omega) 8 0 (by omega) (by omega))) ?_
      · rw [spec_GfMul.j0]; rfl
      · rw [xtN_zero, Nat.zero_xor]; rfl
    · rw [if_neg (by omega), decide_eq_false hb]
      refine Ev.fin (fun k => ?_)
      rw [spec_GfMul.j0]; rfl
  · rw [if_neg (by omega)]
    refine Ev.neg (by simpa using ha) (Ev.fin (fun k => ?_))
    rw [spec_GfMul.j0]; rfl

theorem l14Pow_l0 (n : Nat) : ∀ (d i : Nat), i + d = n % 255 → Ev (fun k => spec_l14Pow.l0 k (n : Int) ((xtN i 1 : Nat) : Int) (i : Int)) ((pwN n : Nat) : Int) := by
  have e : Int.tmod (n : Int) 255 = ((n % 255 : Nat) : Int) := rfl
  intro d
  induction d with
  | zero =>
    intro i hd
    unfold pwN
    obtain rfl : i = n % 255 := by omega
    exact Ev.fin (fun k => by rw [spec_l14Pow.l0, e, if_neg (by omega)])
  | succ d ih =>
    intro i hd
    refine Ev.step (fun k => by rw [spec_l14Pow.l0, e, if_pos (by omega)]) (Ev.bind (sGfMul_ev _ _) ?_)
    rw [gm2 (xtN_lt i (by omega)), ← xtN_succ, wsucc (by omega)]
    exact ih (i + 1) (by omega)
theorem l14Pow_ev (n : Nat) : Ev (fun k => spec_l14Pow.f k (n : Int)) ((pwN n : Nat) : Int) := l14Pow_l0 n (n % 255) 0 (by omega)
def signsL (l : List Int) : Nat → Nat → List Int
  | 0, _ => []
  | d + 1, j => ((valP l j : Nat) : Int) :: signsL l d (j + 1)
theorem signsL_len (l : List Int) : ∀ d j, (signsL l d j).length = d
  | 0, _ => rfl
  | d + 1, j => by simp [signsL, signsL_len l d]
theorem l14Signs_l1 (l : List Int) (m : Int) (acc : List Int) (ha : acc.length ≤ 1000) (cl : Bool) (j w : Nat) (hj : j ≤ 100) (hw : w < 256) (hl : l.length ≤ 1048576) (hb : Bytes l) (R : List Int × Bool) : ∀ (d i s : Nat), i + d = l.length → s < 256 →
    Ev (fun k => spec_l14Signs.l0 k l m (acc ++ [((valG w s (l.drop i) : Nat) : Int)]) (cl && valG w s (l.drop i) == 0) ((j + 1 : Nat) : Int)) R →
    Ev (fun k => spec_l14Signs.l1 k l m acc cl (j : Int) (w : Int) (s : Int) (i : Int)) R := by
  intro d
  induction d with
  | zero =>
    intro i s hd hs h
    rw [List.drop_of_length_le (by omega)] at h
    refine Ev.step (fun k => ?_) h
    rw [spec_l14Signs.l1, if_neg (by omega), wsucc (by omega)]
    have e : ((s : Int) == 0) = (s == 0) := by rw [Bool.eq_iff_iff]; simp
    cases cl
    · rw [if_neg (by decide), if_pos (by omega)]; rfl
    · rw [if_pos rfl, if_pos (by omega), e]; rfl
  | succ d ih =>
    intro i s hd hs h
    have hx := wfb (hb _ (rd_mem (xs := l) (i := i) (by omega)))
    obtain ⟨x, ex⟩ : ∃ x : Nat, rd l (i : Int) = (x : Int) := ⟨(rd l (i : Int)).toNat, by omega⟩
    have hg := gm_lt w hs
    rw [drop_rd (i := i) (by omega), ex] at h
    refine Ev.step (fun k => by rw [spec_l14Signs.l1, if_pos (by omega)]) (Ev.bind (sGfMul_ev _ _) (Ev.pos (show 0 ≤ (i : Int) by omega) ?_))
    rw [gmI_nat hs hw, ex, w64 (n := (x : Int)) (by omega) (by omega), xor64 _ _ (by omega) (by omega), wsucc (by omega)]
    exact ih (i + 1) (gm s w ^^^ x) (by omega) (xor_lt hg (by omega)) h
theorem l14Signs_l0 (l : List Int) (m : Nat) (hm : m ≤ 8) (hl : l.length ≤ 1048576) (hb : Bytes l) : ∀ (d j : Nat) (acc : List Int) (cl : Bool), j + d = 2 * m → acc.length = j →
    Ev (fun k => spec_l14Signs.l0 k l (m : Int) acc cl (j : Int)) (acc ++ signsL l d j, cl && cleanG l d j) := by
  have e : wrap64 (2 * (m : Int)) = ((2 * m : Nat) : Int) := by rw [w64 (by omega) (by omega)]; omega
  intro d
  induction d with
  | zero =>
    intro j acc cl hd ha
    refine Ev.fin (fun k => ?_)
    rw [spec_l14Signs.l0, e, if_neg (by omega)]
    simp [signsL, cleanG]
  | succ d ih =>
    intro j acc cl hd ha
    refine Ev.step (fun k => by rw [spec_l14Signs.l0, e, if_pos (by omega)]) (Ev.bind (l14Pow_ev j) ?_)
    have h := ih (j + 1) (acc ++ [((valP l j : Nat) : Int)]) (cl && valP l j == 0) (by omega) (by simp; omega)
    rw [List.append_assoc, Bool.and_assoc] at h
    exact l14Signs_l1 l (m : Int) acc (by omega) cl j (pwN j) (by omega) (pwN_lt j) hl hb _ l.length 0 0 (by omega) (by omega) h
theorem l14Signs_ev (l : List Int) (m : Nat) (hm : m ≤ 8) (hl : l.length ≤ 1048576) (hb : Bytes l) : Ev (fun k => spec_l14Signs.f k l (m : Int)) (signsL l (2 * m) 0, cleanG l (2 * m) 0) :=
  l14Signs_l0 l m hm hl hb (2 * m) 0 [] true (by omega) rfl
theorem l14Word_eq (l : List Int) (m : Int) (hm : (Lit.int .i64 m).wf = true) (hl : l.length ≤ 1048576) : spec_l14Word.f l m = some (wordB l m) := by
  unfold spec_l14Word.f spec_l14Mend.f wordB
  have hb := wfi hm
  rw [l1In_eq, Option.bind_some, Option.bind_some]
  by_cases h1 : 1 ≤ m ∧ m ≤ 8
  · rw [decide_eq_true h1, if_pos rfl, l1In_eq, Option.bind_some, w64 (n := 2 * m) (by omega) (by omega), w64 (by omega) (by omega)]
    congr 1; rw [Bool.eq_iff_iff]; simp; omega
  · rw [decide_eq_false h1, if_neg (by decide)]; congr 1; symm; rw [decide_eq_false_iff_not]; omega

theorem wordOk_eq (l : List Int) (m : Int) (hm : (Lit.int .i64 m).wf = true) : impl_wordOk.f l m = some (wordB l m) := by
  unfold impl_wordOk.f impl_isMend.f wordB
  have hb := wfi hm
  by_cases h1 : m ≥ 1
  · rw [if_pos h1, Option.bind_some]
    by_cases h2 : m ≤ 8
    · rw [decide_eq_true h2, if_pos rfl, w64 (by omega) (by omega)]
      by_cases h3 : (l.length : Int) > 2 * m
      · rw [if_pos h3]; congr 1; rw [Bool.eq_iff_iff]; simp; omega
      · rw [if_neg h3]; congr 1; symm; rw [decide_eq_false_iff_not]; omega
    · rw [decide_eq_false h2, if_neg (by decide)]; congr 1; symm; rw [decide_eq_false_iff_not]; omega
  · rw [if_neg h1, Option.bind_some, if_neg (by decide)]; congr 1; symm; rw [decide_eq_false_iff_not]; omega

theorem iRsOk_l0 (l : List Int) (hl : l.length ≤ 1048576) (hb : Bytes l) (n : Nat) (hn : n ≤ 16) : ∀ (d j : Nat), j + d = n → Ev (fun k => impl_RsOk.l0 k l (n : Int) (j : Int)) (cleanG l d j) := by
  intro d
  induction d with
  | zero =>
    intro j hd
    exact Ev.fin (fun k => by rw [impl_RsOk.l0, if_neg (by omega)]; rfl)
  | succ d ih =>
    intro j hd
    unfold cleanG
    refine Ev.step (fun k => by rw [impl_RsOk.l0, if_pos (by omega)]) (Ev.bind (ivalue_ev l j hl hb) ?_)
    by_cases h : valP l j = 0
    · rw [wsucc (by omega)]
      refine Ev.cast (Ev.pos (by omega) (ih (j + 1) (by omega))) (by rw [h]; rfl)
    · refine Ev.cast (Ev.neg (by omega) (Ev.now false)) ?_
      rw [beq_eq_false_iff_ne.mpr h, Bool.false_and]
def rsOkM (l : List Int) (m : Int) : Bool := wordB l m && cleanG l (2 * m.toNat) 0
theorem iRsOk_ev (l : List Int) (m : Int) (hl : l.length ≤ 1048576) (hb : Bytes l) (hm : (Lit.int .i64 m).wf = true) : Ev (fun k => impl_RsOk.f k l m) (rsOkM l m) := by
  unfold impl_RsOk.f rsOkM
  refine Ev.bind0 (wordOk_eq l m hm) ?_
  by_cases h : wordB l m = true
  · have hh := of_decide_eq_true h
    rw [h, Bool.true_and]
    obtain ⟨m, rfl⟩ : ∃ n : Nat, m = n := ⟨m.toNat, by omega⟩
    have e : wrap64 (2 * (m : Int)) = ((2 * m : Nat) : Int) := by rw [w64 (by omega) (by omega)]; omega
    rw [e, Int.toNat_natCast]
    exact Ev.pos rfl (iRsOk_l0 l hl hb (2 * m) (by omega) (2 * m) 0 (by omega))
  · rw [Bool.eq_false_iff.mpr h, Bool.false_and]
    exact Ev.neg (by decide) (Ev.now _)

theorem sRsOk_ev (l : List Int) (m : Int) (hl : l.length ≤ 1048576) (hb : Bytes l) (hm : (Lit.int .i64 m).wf = true) : Ev (fun k => spec_RsOk.f k l m) (rsOkM l m) := by
  unfold spec_RsOk.f rsOkM
  refine Ev.bind0 (l14Word_eq l m hm hl) ?_
  by_cases h : wordB l m = true
  · have hh := of_decide_eq_true h
    rw [h, Bool.true_and]
    obtain ⟨m, rfl⟩ : ∃ n : Nat, m = n := ⟨m.toNat, by omega⟩
    rw [Int.toNat_natCast]
    exact Ev.pos rfl (Ev.bind (l14Signs_ev l m (by omega) hl hb) (Ev.now _))
  · rw [Bool.eq_false_iff.mpr h, Bool.false_and]
    exact Ev.neg (by decide) (Ev.now _)

theorem FnExactRsOk : laws_FnExactRsOk.Pure := by
  intro l m _ hl hw hm
  refine Ev.rounds ?_
  unfold laws_FnExactRsOk.f
  by_cases hb : (l.length : Int) > 1048576
  · exact Ev.pos hb (Ev.now true)
  · have h : l.length ≤ 17592186044416 := by omega
    have h2 : l.length ≤ 1048576 := by omega
    refine Ev.neg hb (Ev.bind (toByteS_ev l h) (Ev.bind (sRsOk_ev l m h2 hw hm) (Ev.bind (toByteS_ev l h) (Ev.bind (iRsOk_ev l m h2 hw hm) (Ev.neg ?_ (Ev.bind (toByteS_ev l h) (Ev.bind (eqByteS_ev l h) (Ev.pos rfl (Ev.now true)))))))))
    simp

end Go.Proofs.Ytdcjfcfiflpblaa.Pure
