/- What RsMend answers to a drawn word is a clean word as far off as it tells, no farther than it mends, and the reference tells the same: for every code; no condition. -/
import Derived.Test.YtdcjfcfiflpblaaQFnNearestWordx14
import Derived.Test.YtdcjfcfiflpblaaCom
import Derived.Test.YtdcjfcfiflpblaaGf
import Derived.Test.YtdcjfcfiflpblaaVec
import Derived.Test.YtdcjfcfiflpblaaFd
import Derived.Test.YtdcjfcfiflpblaaBm
import Derived.Test.YtdcjfcfiflpblaaGj
import Derived.Test.YtdcjfcfiflpblaaMtx
import Derived.Test.YtdcjfcfiflpblaaNr
set_option linter.unusedVariables false
set_option linter.unusedSimpArgs false
namespace Go.Proofs.Ytdcjfcfiflpblaa.Pure
open Go.RowKit Go.Proofs.Ytdcjfcfiflpblaa.PFnNearestWord Go.Proofs.YtdcjfcfiflpblaaW.PrintWords Go.Proofs.YtdcjfcfiflpblaaW.PrintLast Go.Proofs.Ytdcjfcfiflpblaa.Com Go.Proofs.Ytdcjfcfiflpblaa.Gf Go.Proofs.Ytdcjfcfiflpblaa.Vec Go.Proofs.Ytdcjfcfiflpblaa.Fd Go.Proofs.Ytdcjfcfiflpblaa.Bm Go.Proofs.Ytdcjfcfiflpblaa.Gj Go.Proofs.Ytdcjfcfiflpblaa.Mtx Go.Proofs.Ytdcjfcfiflpblaa.Nr

theorem big_eq (l : List Int) : laws_big.f l = some (decide ((l.length : Int) > 1048576)) := rfl
theorem isByte_eq (a : Int) : impl_isByte.f a = some (decide (0 ≤ a ∧ a ≤ 255)) := by
  unfold impl_isByte.f
  by_cases h : 0 ≤ a
  · rw [if_pos h]; simp [h]
  · rw [if_neg h]; simp [h]
theorem iGfMul_l0 : ∀ (n a b r : Nat), a < 256 → b < 2 ^ n → n ≤ 8 → r < 256 → Ev (fun k => impl_GfMul.l0 k (a : Int) (b : Int) (r : Int)) ((r ^^^ gmF n a b : Nat) : Int) := by
  intro n
  induction n with
  | zero =>
    intro a b r _ hb _ _
    refine Ev.fin (fun k => ?_)
    rw [impl_GfMul.l0, if_neg (by omega)]
    show some (r : Int) = some ((r ^^^ 0 : Nat) : Int)
    rw [Nat.xor_zero]
  | succ n ih =>
    intro a b r ha hb hn hr
    by_cases h0 : b = 0
    · refine Ev.fin (fun k => ?_)
      rw [impl_GfMul.l0, if_neg (by omega), h0, gmF_zero, Nat.xor_zero]
    · have hp : 2 ^ (n + 1) = 2 * 2 ^ n := by rw [Nat.pow_succ]; omega
      refine Ev.cast (Ev.step (fun k => ?_) (ih (xt a) (b / 2) (r ^^^ (if b % 2 = 1 then a else 0)) (xt_lt ha) (by omega) (by omega) (xor_lt hr (by split <;> omega)))) ?_
      · have e2 : wrap64 ((a : Int) * 2) = ((2 * a : Nat) : Int) := by rw [wr (by omega) (by omega)]; omega
        have e3 : (b : Int) / 2 = ((b / 2 : Nat) : Int) := by omega
        rw [impl_GfMul.l0, if_pos (by omega), and64_1, e2, e3, x285 _ (by omega), xor64 r a (by omega) (by omega)]
        unfold xt
        by_cases ho : b % 2 = 1 <;> by_cases hx : 2 * a > 255
        · rw [if_pos (by omega), if_pos (by omega), if_pos hx, if_pos ho]
        · rw [if_pos (by omega), if_neg (by omega), if_neg hx, if_pos ho]
        · rw [if_neg (by omega), if_pos (by omega), if_pos hx, if_neg ho, Nat.xor_zero]
        · rw [if_neg (by omega), if_neg (by omega), if_neg hx, if_neg ho, Nat.xor_zero]
      · show (((r ^^^ (if b % 2 = 1 then a else 0)) ^^^ gmF n (xt a) (b / 2) : Nat) : Int) = ((r ^^^ ((if b % 2 = 1 then a else 0) ^^^ gmF n (xt a) (b / 2)) : Nat) : Int)
        rw [Nat.xor_assoc]
theorem iGfMul_ev (a b : Int) : Ev (fun k => impl_GfMul.f k a b) (gmI a b) := by
  unfold impl_GfMul.f gmI
  simp only [isByte_eq, Option.bind_some]
  by_cases ha : 0 ≤ a ∧ a ≤ 255
  · refine Ev.pos (by simp [ha]) ?_
    by_cases hb : 0 ≤ b ∧ b ≤ 255
    · rw [if_pos ⟨ha.1, ha.2, hb⟩, decide_eq_true hb]
      obtain ⟨a, rfl⟩ : ∃ n : Nat, a = n := ⟨a.toNat, by omega⟩
      obtain ⟨b, rfl⟩ : ∃ n : Nat, b = n := ⟨b.toNat, by omega⟩
      refine Ev.cast (Ev.step (fun k => ?_) (iGfMul_l0 8 a b 0 (by omega) (by omega) (by omega) (by omega))) ?_
      · rw [impl_GfMul.j0]; rfl
      · rw [Nat.zero_xor]; rfl
    · rw [if_neg (by omega), decide_eq_false hb]
      refine Ev.fin (fun k => ?_)
      rw [impl_GfMul.j0]; rfl
  · rw [if_neg (by omega)]
    refine Ev.neg (by simpa using ha) (Ev.fin (fun k => ?_))
    rw [impl_GfMul.j0]; rfl
/-- The n-th power of 2 in the field. -/
def pwN (n : Nat) : Nat := xtN (n % 255) 1
theorem pwN_lt (n : Nat) : pwN n < 256 := xtN_lt _ (by omega)
theorem gm2 {a : Nat} (h : a < 256) : gmI (a : Int) 2 = ((xt a : Nat) : Int) := by
  have := gmI_nat h (show 2 < 256 by omega)
  rw [gm_comm h (by omega), xt_is h] at this
  exact this
theorem igfPow_l0 (n : Nat) (hn : n ≤ 255) : ∀ (d i : Nat), i + d = n → Ev (fun k => impl_gfPow.l0 k ((xtN i 1 : Nat) : Int) (n : Int) (i : Int)) ((xtN n 1 : Nat) : Int) := by
  intro d
  induction d with
  | zero =>
    intro i hd
    obtain rfl : i = n := by omega
    exact Ev.fin (fun k => by rw [impl_gfPow.l0, if_neg (by omega)])
  | succ d ih =>
    intro i hd
    refine Ev.step (fun k => by rw [impl_gfPow.l0, if_pos (by omega)]) (Ev.bind (iGfMul_ev _ _) ?_)
    rw [gm2 (xtN_lt i (by omega)), ← xtN_succ, wsucc (by omega)]
    exact ih (i + 1) (by omega)
theorem igfPow_ev (n : Nat) : Ev (fun k => impl_gfPow.f k (n : Int)) ((pwN n : Nat) : Int) := by
  unfold impl_gfPow.f pwN
  have e : Int.tmod (n : Int) 255 = ((n % 255 : Nat) : Int) := rfl
  rw [e]
  exact igfPow_l0 (n % 255) (by omega) (n % 255) 0 (by omega)
/-- A word (numbers of bytes) at w, from the state s on. -/
def valG (w : Nat) : Nat → List Int → Nat
  | s, [] => s
  | s, x :: t => valG w (gm s w ^^^ x.toNat) t
theorem valG_lt {w : Nat} (hw : w < 256) : ∀ (l : List Int) {s : Nat}, s < 256 → Bytes l → valG w s l < 256
  | [], _, hs, _ => hs
  | x :: t, s, hs, hl => by
    have hx := wfb (hl x List.mem_cons_self)
    exact valG_lt hw t (xor_lt (gm_lt w hs) (by omega)) (fun y hy => hl y (List.mem_cons_of_mem _ hy))
theorem ivalue_l0 (l : List Int) (w : Nat) (hw : w < 256) (hl : l.length ≤ 1048576) (hb : Bytes l) : ∀ (d i s : Nat), i + d = l.length → s < 256 → Ev (fun k => impl_value.l0 k (w : Int) (s : Int) l (l.length : Int) (i : Int)) ((valG w s (l.drop i) : Nat) : Int) := by
  intro d
  induction d with
  | zero =>
    intro i s hd hs
    rw [List.drop_of_length_le (by omega)]
    exact Ev.fin (fun k => by rw [impl_value.l0, if_neg (by omega)]; rfl)
  | succ d ih =>
    intro i s hd hs
    have hx := wfb (hb _ (rd_mem (xs := l) (i := i) (by omega)))
    obtain ⟨x, ex⟩ : ∃ x : Nat, rd l (i : Int) = (x : Int) := ⟨(rd l (i : Int)).toNat, by omega⟩
    have hg := gm_lt w hs
    refine Ev.step (fun k => by rw [impl_value.l0, if_pos (by omega), if_pos (by omega), if_pos (by omega)]) (Ev.bind (iGfMul_ev _ _) ?_)
    rw [gmI_nat hs hw, ex, w64 (n := (x : Int)) (by omega) (by omega), xor64 _ _ (by omega) (by omega), wsucc (by omega), drop_rd (i := i) (by omega), ex]
    exact ih (i + 1) (gm s w ^^^ x) (by omega) (xor_lt hg (by omega))
def valP (l : List Int) (j : Nat) : Nat := valG (pwN j) 0 l
theorem ivalue_ev (l : List Int) (j : Nat) (hl : l.length ≤ 1048576) (hb : Bytes l) : Ev (fun k => impl_value.f k l (j : Int)) ((valP l j : Nat) : Int) := by
  unfold impl_value.f
  exact Ev.bind (igfPow_ev j) (ivalue_l0 l (pwN j) (pwN_lt j) hl hb l.length 0 0 (by omega) (by omega))
/-- Are the values at the powers j, j + 1, .. (d of them) all 0? -/
def cleanG (l : List Int) : Nat → Nat → Bool
  | 0, _ => true
  | d + 1, j => valP l j == 0 && cleanG l d (j + 1)
def wordB (l : List Int) (m : Int) : Bool := decide (1 ≤ m ∧ m ≤ 8 ∧ 2 * m < (l.length : Int) ∧ l.length ≤ 255)
theorem iGfInv_l0 (a : Nat) (ha : a < 256) : ∀ (d i : Nat), i + d = 254 → Ev (fun k => impl_GfInv.l0 k (a : Int) ((gp a i : Nat) : Int) (i : Int)) (if a = 0 then 0 else ((gp a 254 : Nat) : Int)) := by
  intro d
  induction d with
  | zero =>
    intro i hd
    obtain rfl : i = 254 := by omega
    refine Ev.fin (fun k => ?_)
    rw [impl_GfInv.l0, if_neg (by omega)]
    by_cases h : a = 0
    · rw [if_pos (by omega), if_pos h]
    · rw [if_neg (by omega), if_neg h]
  | succ d ih =>
    intro i hd
    refine Ev.step (f := fun k => (impl_GfMul.f k ((gp a i : Nat) : Int) (a : Int)).bind fun t => impl_GfInv.l0 k (a : Int) t ((i + 1 : Nat) : Int)) (fun k => ?_) ?_
    · rw [impl_GfInv.l0, if_pos (by omega), wsucc (by omega)]
    · refine Ev.bind (iGfMul_ev _ _) ?_
      rw [gmI_nat (gp_lt _) ha]
      exact ih (i + 1) (by omega)
def invI (a : Int) : Int := if 0 < a ∧ a ≤ 255 then ((gp a.toNat 254 : Nat) : Int) else 0
theorem iGfInv_ev (a : Int) : Ev (fun k => impl_GfInv.f k a) (invI a) := by
  unfold impl_GfInv.f invI
  simp only [isByte_eq, Option.bind_some]
  by_cases ha : 0 ≤ a ∧ a ≤ 255
  · refine Ev.pos (by simp [ha]) ?_
    obtain ⟨a, rfl⟩ : ∃ n : Nat, a = n := ⟨a.toNat, by omega⟩
    refine Ev.cast (iGfInv_l0 a (by omega) 254 0 (by omega)) ?_
    by_cases h : a = 0
    · rw [if_pos h, if_neg (by omega)]
    · rw [if_neg h, if_pos (by omega), Int.toNat_natCast]
  · rw [if_neg (by omega)]
    exact Ev.neg (by simpa using ha) (Ev.now 0)
theorem pwN_v (n : Nat) : pwN n = (pw al n).v := by rw [pw_al]; exact xtN_mod n
theorem valG_F (X : F) : ∀ (l : List Int), Bytes l → ∀ s : F, valG X.v s.v l = (s * pw X l.length + sm l.length (fun p => wF l p * pw X (l.length - 1 - p))).v
  | [], _, s => by
    show s.v = (s * 1 + 0).v
    rw [F.mul_one, F.add_zero]
  | x :: t, hb, s => by
    have hbt : Bytes t := fun y hy => hb y (List.mem_cons_of_mem _ hy)
    have hx := wfb (hb x List.mem_cons_self)
    have e0 : (wF (x :: t) 0).v = x.toNat := by
      rw [wF_v hb]; rfl
    have e1 : gm s.v X.v ^^^ x.toNat = (s * X + wF (x :: t) 0).v := by rw [← e0]; rfl
    show valG X.v (gm s.v X.v ^^^ x.toNat) t = _
    rw [e1, valG_F X t hbt]
    congr 1
    rw [List.length_cons, sm_front]
    have e2 : sm t.length (fun i => wF (x :: t) (i + 1) * pw X (t.length + 1 - 1 - (i + 1))) = sm t.length (fun p => wF t p * pw X (t.length - 1 - p)) := sm_congr _ fun i _ => by
      show wF (x :: t) (i + 1) * pw X (t.length + 1 - 1 - (i + 1)) = _
      rw [show wF (x :: t) (i + 1) = wF t i from rfl, show t.length + 1 - 1 - (i + 1) = t.length - 1 - i by omega]
    show (s * X + wF (x :: t) 0) * pw X t.length + _ = s * (X * pw X t.length) + (wF (x :: t) 0 * pw X (t.length + 1 - 1 - 0) + _)
    rw [e2, F.add_mul, F.mul_assoc, show t.length + 1 - 1 - 0 = t.length by omega, F.add_assoc]
theorem valP_syn (l : List Int) (hb : Bytes l) (j : Nat) : valP l j = (syn l.length (wF l) j).v := by
  unfold valP
  rw [pwN_v]
  have h := valG_F (pw al j) l hb 0
  rw [F.zero_mul, F.zero_add] at h
  have e : valG (pw al j).v 0 l = valG (pw al j).v (0 : F).v l := rfl
  rw [e, h]
  congr 1
  unfold syn xp
  exact sm_congr _ fun p _ => by
    show _ * pw (pw al j) (l.length - 1 - p) = _ * pw (pw al (l.length - 1 - p)) j
    rw [pw_mul, pw_mul, Nat.mul_comm]
theorem clean_syn (l : List Int) (hb : Bytes l) : ∀ d j, cleanG l d j = true ↔ ∀ i, j ≤ i → i < j + d → syn l.length (wF l) i = 0
  | 0, j => ⟨fun _ i h1 h2 => by omega, fun _ => rfl⟩
  | d + 1, j => by
    show (valP l j == 0 && cleanG l d (j + 1)) = true ↔ _
    rw [Bool.and_eq_true, clean_syn l hb d (j + 1), valP_syn l hb, beq_iff_eq]
    constructor
    · rintro ⟨h1, h2⟩ i h3 h4
      by_cases e : i = j
      · rw [e]; exact F.ext h1
      · exact h2 i (by omega) (by omega)
    · intro h
      refine ⟨?_, fun i h1 h2 => h i (by omega) (by omega)⟩
      rw [h j (by omega) (by omega)]; rfl
theorem invF {a : F} (h : a ≠ 0) : invI ((a.v : Nat) : Int) = (((F.inv a).v : Nat) : Int) := by
  have h1 : a.v ≠ 0 := fun e => h (F.ext e)
  have := a.h
  unfold invI
  rw [if_pos ⟨by omega, by omega⟩]; rfl
theorem rdf_mat {R N : Nat} {M : Nat → Nat → F} {i : Nat} (h : i < R) : rd_L2 (mat R N M) (i : Int) = vec N (fun j => (M i j).v) := by
  unfold rd_L2; rw [Int.toNat_natCast]; exact mat_getD h
theorem rdf_bld {A : Nat → Nat → F} {R n i j : Nat} (h : i < R) : rd_L2 (bld A R n i j) (i : Int) = vec j (fun t => (A i t).v) := by
  unfold rd_L2; rw [Int.toNat_natCast]; exact bld_row h
theorem fl_pow {N q i : Nat} (hN : N ≤ 255) (hq : q < N) (hi : i ≤ 16) : wrap64 (wrap64 (wrap64 ((N : Int) - 1) - (q : Int)) * (i : Int)) = (((N - 1 - q) * i : Nat) : Int) := by
  have e1 : wrap64 (wrap64 ((N : Int) - 1) - (q : Int)) = ((N - 1 - q : Nat) : Int) := by
    rw [w64 (n := (N : Int) - 1) (by omega) (by omega), w64 (by omega) (by omega)]; omega
  have h2 : (N - 1 - q) * i ≤ 255 * 16 := Nat.mul_le_mul (by omega) hi
  rw [e1, ← Int.natCast_mul]
  exact w64 (by omega) (by omega)
theorem fl_l1 (l : List Int) (hb : Bytes l) (hN : l.length ≤ 255) {n R : Nat} (hn : n ≤ R) (hR : R ≤ 16) (g : Nat → Nat) (hg : ∀ t, t < n → g t < l.length) {i : Nat} (hi : i < R) {r : List Int × Bool}
    (next : Ev (fun k => impl_fill.l0 k l (vec n g) (n : Int) (bld (sysM l.length n g (syn l.length (wF l))) R n (i + 1) 0) (R : Int) ((i + 1 : Nat) : Int)) r) :
    ∀ d j, j + d = n → Ev (fun k => impl_fill.l1 k l (vec n g) (n : Int) (bld (sysM l.length n g (syn l.length (wF l))) R n i j) (i : Int) (R : Int) (i : Int) (vec n g) (n : Int) (j : Int)) r := by
  intro d
  induction d with
  | zero =>
    intro j hd
    obtain rfl : j = n := by omega
    refine Ev.step (fun k => by rw [impl_fill.l1, if_neg (by omega), if_pos (by omega), if_pos (by rw [bld_len]; omega)]) (Ev.bind (ivalue_ev l i (by omega) hb) ?_)
    refine Ev.pos (by rw [rdf_bld hi, vec_len]; omega) ?_
    have e : valP l i = (sysM l.length j g (syn l.length (wF l)) i j).v := by
      rw [valP_syn l hb]; unfold sysM; rw [if_neg (by omega)]
    rw [rdf_bld hi, e, Int.toNat_natCast, vec_append j (fun t => sysM l.length j g (syn l.length (wF l)) i t), bld_step hi, bld_next, wsucc (by omega)]
    exact next
  | succ d ih =>
    intro j hd
    have hj : j < n := by omega
    have hq := hg j hj
    refine Ev.step (fun k => by rw [impl_fill.l1, if_pos (by omega), if_pos (by omega), if_pos (by rw [vec_len]; omega), if_pos (by omega), if_pos (by rw [bld_len]; omega), rd_vec _ hj, fl_pow hN hq (by omega)]) (Ev.bind (igfPow_ev _) ?_)
    refine Ev.pos (by rw [rdf_bld hi, vec_len]; omega) ?_
    have e : pwN ((l.length - 1 - g j) * i) = (sysM l.length n g (syn l.length (wF l)) i j).v := by
      rw [pwN_v]; unfold sysM xp; rw [if_pos hj, pw_mul]
    rw [rdf_bld hi, e, Int.toNat_natCast, vec_append j (fun t => sysM l.length n g (syn l.length (wF l)) i t), bld_step hi, wsucc (by omega)]
    exact ih (j + 1) (by omega)
theorem fl_l0 (l : List Int) (hb : Bytes l) (hN : l.length ≤ 255) {n R : Nat} (hn : n ≤ R) (hR : R ≤ 16) (g : Nat → Nat) (hg : ∀ t, t < n → g t < l.length) {r : List Int × Bool}
    (fin : Ev (fun k => impl_fill.l2 k l (vec n g) (n : Int) (mat R (n + 1) (sysM l.length n g (syn l.length (wF l)))) (n : Int) 0) r) :
    ∀ d i, i + d = R → Ev (fun k => impl_fill.l0 k l (vec n g) (n : Int) (bld (sysM l.length n g (syn l.length (wF l))) R n i 0) (R : Int) (i : Int)) r := by
  intro d
  induction d with
  | zero =>
    intro i hd
    obtain rfl : i = R := by omega
    rw [bld_done]
    exact Ev.step (fun k => by rw [impl_fill.l0, if_neg (by omega)]) fin
  | succ d ih =>
    intro i hd
    exact Ev.step (fun k => by rw [impl_fill.l0, if_pos (by omega), vec_len]; rfl) (fl_l1 l hb hN hn hR g hg (by omega) (ih (i + 1) (by omega)) n 0 (by omega))
section
variable (l x1 : List Int)
theorem fl_l3 {n R c : Nat} (hR : R ≤ 16) (hc : c < n) (M : Nat → Nat → F) {r : List Int × Bool} : ∀ d p, p + d = R → Ev (fun k => impl_fill.j4 k l x1 (n : Int) (mat R (n + 1) M) (c : Int) ((fnd M c d p : Nat) : Int) (n : Int) (c : Int)) r → Ev (fun k => impl_fill.l3 k l x1 (n : Int) (mat R (n + 1) M) (c : Int) (p : Int) (n : Int) (c : Int)) r := by
  intro d
  induction d with
  | zero =>
    intro p hd h
    exact Ev.step (fun k => by rw [impl_fill.l3, if_neg (by rw [mat_len]; omega)]; rfl) h
  | succ d ih =>
    intro p hd h
    have hp : p < R := by omega
    unfold fnd at h
    by_cases e : M p c = 0
    · rw [if_pos e] at h
      refine Ev.step (fun k => ?_) (ih (p + 1) (by omega) h)
      rw [impl_fill.l3, if_pos (by rw [mat_len]; omega), if_pos (by omega), if_pos (by omega), rdf_mat hp, if_pos (by rw [vec_len]; omega), rd_vec _ (by omega), if_pos ((v_eq0 _).2 e), wsucc (by omega)]
    · rw [if_neg e] at h
      refine Ev.step (fun k => ?_) h
      rw [impl_fill.l3, if_pos (by rw [mat_len]; omega), if_pos (by omega), if_pos (by omega), rdf_mat hp, if_pos (by rw [vec_len]; omega), rd_vec _ (by omega), if_neg (fun h => e ((v_eq0 _).1 h))]
theorem fl_l4 {n R c : Nat} (hn : n ≤ R) (hR : R ≤ 16) (hc : c < n) (E : Nat → Nat → F) (b : F) {r : List Int × Bool}
    (next : Ev (fun k => impl_fill.l5 k l x1 (n : Int) (mat R (n + 1) (scl E c b (n + 1))) (c : Int) (n : Int) (c : Int) (R : Int) 0) r) :
    ∀ d j, j + d = n + 1 → Ev (fun k => impl_fill.l4 k l x1 (n : Int) (mat R (n + 1) (scl E c b j)) (c : Int) ((b.v : Nat) : Int) (n : Int) (c : Int) ((n + 1 : Nat) : Int) (j : Int)) r := by
  intro d
  induction d with
  | zero =>
    intro j hd
    obtain rfl : j = n + 1 := by omega
    exact Ev.step (fun k => by rw [impl_fill.l4, if_neg (by omega), mat_len]) next
  | succ d ih =>
    intro j hd
    have hcR : c < R := by omega
    have hj : j < n + 1 := by omega
    have er : rd_L2 (mat R (n + 1) (scl E c b j)) (c : Int) = vec (n + 1) fun t => (scl E c b j c t).v := rdf_mat hcR
    have ex : scl E c b j c j = E c j := if_neg (by omega)
    refine Ev.step (fun k => by rw [impl_fill.l4, if_pos (by omega), if_pos (by omega), if_pos (by rw [mat_len]; omega), if_pos (by omega), er, if_pos (by rw [vec_len]; omega), rd_vec _ hj, ex]) (Ev.bind (iGfMul_ev _ _) ?_)
    rw [mulF, Int.toNat_natCast, Int.toNat_natCast, mat_put (scl E c b j) hcR hj (E c j * b), mat_congr (fun i' j' _ _ => scl_put E c b j i' j'), wsucc (by omega)]
    exact ih (j + 1) (by omega)
theorem fl_l6 {n R c i : Nat} (hn : n ≤ R) (hR : R ≤ 16) (hc : c < n) (hi : i < R) (hne : i ≠ c) (B : Nat → Nat → F) (f : F) {r : List Int × Bool}
    (next : Ev (fun k => impl_fill.l5 k l x1 (n : Int) (mat R (n + 1) (adr B c i f (n + 1))) (c : Int) (n : Int) (c : Int) (R : Int) ((i + 1 : Nat) : Int)) r) :
    ∀ d j, j + d = n + 1 → Ev (fun k => impl_fill.l6 k l x1 (n : Int) (mat R (n + 1) (adr B c i f j)) (c : Int) (i : Int) ((f.v : Nat) : Int) (n : Int) (c : Int) (R : Int) (i : Int) ((n + 1 : Nat) : Int) (j : Int)) r := by
  intro d
  induction d with
  | zero =>
    intro j hd
    obtain rfl : j = n + 1 := by omega
    exact Ev.step (fun k => by rw [impl_fill.l6, if_neg (by omega), wsucc (by omega)]) next
  | succ d ih =>
    intro j hd
    have hcR : c < R := by omega
    have hj : j < n + 1 := by omega
    have er : rd_L2 (mat R (n + 1) (adr B c i f j)) (c : Int) = vec (n + 1) fun t => (adr B c i f j c t).v := rdf_mat hcR
    have ei : rd_L2 (mat R (n + 1) (adr B c i f j)) (i : Int) = vec (n + 1) fun t => (adr B c i f j i t).v := rdf_mat hi
    have ex : adr B c i f j c j = B c j := if_neg (by omega)
    have ey : adr B c i f j i j = B i j := if_neg (by omega)
    refine Ev.step (fun k => by rw [impl_fill.l6, if_pos (by omega), if_pos (by omega), if_pos (by rw [mat_len]; omega), if_pos (by omega), ei, if_pos (by rw [vec_len]; omega), if_pos (by omega), if_pos (by rw [mat_len]; omega), er, if_pos (by rw [vec_len]; omega), rd_vec _ hj, rd_vec _ hj, ex, ey]) (Ev.bind (iGfMul_ev _ _) ?_)
    rw [mulF, xorF, Int.toNat_natCast, Int.toNat_natCast, mat_put (adr B c i f j) hi hj (B i j + f * B c j), mat_congr (fun i' j' _ _ => adr_put B c i f j i' j'), wsucc (by omega)]
    exact ih (j + 1) (by omega)
theorem fl_l5 {n R c : Nat} (hn : n ≤ R) (hR : R ≤ 16) (hc : c < n) (A : Nat → Nat → F) (y : Nat → F) (hy : ∀ j, A c j = y j) {r : List Int × Bool}
    (next : Ev (fun k => impl_fill.l2 k l x1 (n : Int) (mat R (n + 1) (cmb A c y R)) (n : Int) ((c + 1 : Nat) : Int)) r) :
    ∀ d i, i + d = R → Ev (fun k => impl_fill.l5 k l x1 (n : Int) (mat R (n + 1) (cmb A c y i)) (c : Int) (n : Int) (c : Int) (R : Int) (i : Int)) r := by
  intro d
  induction d with
  | zero =>
    intro i hd
    obtain rfl : i = R := by omega
    exact Ev.step (fun k => by rw [impl_fill.l5, if_neg (by omega), wsucc (by omega)]) next
  | succ d ih =>
    intro i hd
    have hi : i < R := by omega
    have h := ih (i + 1) (by omega)
    have ei : rd_L2 (mat R (n + 1) (cmb A c y i)) (i : Int) = vec (n + 1) fun t => (A i t).v := by
      rw [rdf_mat hi]
      exact vec_congr fun t _ => by rw [cmb_row A c y (Nat.le_refl i)]
    have s0 : ∀ k, impl_fill.l5 (k + 1) l x1 (n : Int) (mat R (n + 1) (cmb A c y i)) (c : Int) (n : Int) (c : Int) (R : Int) (i : Int) = impl_fill.j7 k l x1 (n : Int) (mat R (n + 1) (cmb A c y i)) (c : Int) (i : Int) (((A i c).v : Nat) : Int) (n : Int) (c : Int) (R : Int) (i : Int) (if i = c then false else ((((A i c).v : Nat) : Int) != 0)) := by
      intro k
      rw [impl_fill.l5, if_pos (by omega), if_pos (by omega), if_pos (by rw [mat_len]; omega), if_pos (by omega), ei, if_pos (by rw [vec_len]; omega), rd_vec _ (by omega)]
      by_cases e : i = c
      · rw [if_pos (by omega), if_pos e]
      · rw [if_neg (by omega), if_neg e]
    by_cases e : i = c
    · subst e
      rw [mat_congr (fun i' j _ _ => cmb_same A i y i' j)] at h
      refine Ev.step s0 (Ev.step (fun k => ?_) h)
      rw [if_pos rfl, impl_fill.j7, if_neg (by decide), wsucc (by omega)]
    · by_cases ef : A i c = 0
      · rw [← mat_congr (fun i' j _ _ => cmb_nil A y ef i' j)] at h
        refine Ev.step s0 (Ev.step (fun k => ?_) h)
        rw [if_neg e, (v_eq0 _).2 ef, impl_fill.j7, if_neg (by decide), wsucc (by omega)]
      · rw [← mat_congr (fun i' j _ hj => cmb_adr A y e hy i' j hj)] at h
        have h6 := fl_l6 l x1 hn hR hc hi e (cmb A c y i) (A i c) h (n + 1) 0 (by omega)
        rw [mat_congr (M := adr _ c i _ 0) (M' := cmb A c y i) (fun i' j' _ _ => if_neg (by omega))] at h6
        refine Ev.step s0 (Ev.step (fun k => ?_) h6)
        have hb : ((((A i c).v : Nat) : Int) != 0) = true := by
          rw [bne_iff_ne]; exact fun h => ef ((v_eq0 _).1 h)
        rw [if_neg e, hb, impl_fill.j7, if_pos rfl, if_pos (by omega), if_pos (by rw [mat_len]; omega), ei, vec_len]; rfl
theorem fl_l2 {n R : Nat} (hn : n ≤ R) (hR : R ≤ 16) : ∀ d c (M : Nat → Nat → F), c + d = n → unit R c M → (∀ z, ker R n M z → z n = 0 → ∀ i, i < n → z i = 0) →
    ∃ M', unit R n M' ∧ (∀ z, ker R n M' z ↔ ker R n M z) ∧ ∀ r, Ev (fun k => impl_fill.l2 k l x1 (n : Int) (mat R (n + 1) M') (n : Int) (n : Int)) r → Ev (fun k => impl_fill.l2 k l x1 (n : Int) (mat R (n + 1) M) (n : Int) (c : Int)) r := by
  intro d
  induction d with
  | zero =>
    intro c M hd hu _
    obtain rfl : c = n := by omega
    exact ⟨M, hu, fun _ => Iff.rfl, fun _ h => h⟩
  | succ d ih =>
    intro c M hd hu free
    have hc : c < n := by omega
    have hcR : c < R := by omega
    have hle := fnd_le M c (R - c) c
    by_cases e : fnd M c (R - c) c = R
    · exfalso
      obtain ⟨z, z1, z2, z3⟩ := gj_fail (R := R) (n := n) hu hc (fun k a b => fnd_end M c (R - c) c (by omega) k a (by omega))
      have := free z z1 z2 c hc
      rw [z3] at this
      exact absurd this F.one_ne
    · have hne := fnd_ne M c (R - c) c (by omega)
      have h3 := fun r => fl_l3 l x1 (r := r) hR hc M (R - c) c (by omega)
      generalize fnd M c (R - c) c = p at *
      have hp : p < R := by omega
      have hk := fun z => gj_ker (R := R) (n := n) hcR hp hne z
      obtain ⟨M', m1, m2, m3⟩ := ih (c + 1) (gj c p M) (by omega) (gj_unit hu hcR hp (by omega) hne) (fun z h => free z ((hk z).1 h))
      refine ⟨M', m1, fun z => (m2 z).trans (hk z), fun r hr => ?_⟩
      have h5 := m3 r hr
      rw [← mat_congr (M := cmb _ _ _ R) (fun i j hi _ => cmb_gj M R c p i j hi)] at h5
      have hs : ∀ j, swp M c p (fun j => M p j * F.inv (M p c)) c j = M p j * F.inv (M p c) := fun j => if_pos rfl
      have h5 := fl_l5 l x1 hn hR hc (swp M c p (fun j => M p j * F.inv (M p c))) (fun j => M p j * F.inv (M p c)) hs h5 R 0 (by omega)
      rw [mat_congr (fun i j _ _ => cmb_zero _ _ _ i j), ← mat_congr (fun i j _ hj => exc_swp M c p (F.inv (M p c)) i j hj)] at h5
      have h4 := fl_l4 l x1 hn hR hc (exc M c p) (F.inv (M p c)) h5 (n + 1) 0 (by omega)
      rw [mat_congr (M := scl _ c _ 0) (M' := exc M c p) (fun i' j' _ _ => if_neg (by omega))] at h4
      refine Ev.step (fun k => by rw [impl_fill.l2, if_pos (by omega)]) (h3 r ?_)
      have er : rd_L2 (mat R (n + 1) M) (p : Int) = vec (n + 1) fun t => (M p t).v := rdf_mat hp
      have ec : rd_L2 (mat R (n + 1) M) (c : Int) = vec (n + 1) fun t => (M c t).v := rdf_mat hcR
      have es : ((mat R (n + 1) M).set c (vec (n + 1) fun t => (M p t).v)).set p (vec (n + 1) fun t => (M c t).v) = mat R (n + 1) (exc M c p) := by
        rw [mat_set hcR (M p), mat_set hp (M c)]; rfl
      have ee : rd_L2 (mat R (n + 1) (exc M c p)) (c : Int) = vec (n + 1) fun t => (exc M c p c t).v := rdf_mat hcR
      have ev : exc M c p c c = M p c := by
        unfold exc
        by_cases h : c = p
        · rw [if_pos h, h]
        · rw [if_neg h, if_pos rfl]
      have hb : Ev (fun k => (impl_GfInv.f k (((M p c).v : Nat) : Int)).bind fun t => impl_fill.l4 k l x1 (n : Int) (mat R (n + 1) (exc M c p)) (c : Int) t (n : Int) (c : Int) ((n + 1 : Nat) : Int) 0) r := by
        refine Ev.bind (iGfInv_ev _) ?_
        rw [invF hne]; exact h4
      refine Ev.step (fun k => ?_) hb
      rw [impl_fill.j4, if_neg (by rw [mat_len]; omega), if_pos (by omega), if_pos (by rw [mat_len]; omega), if_pos (by rw [mat_len]; omega), er, ec, Int.toNat_natCast, Int.toNat_natCast, es, Option.bind_some, ee, if_pos (by rw [vec_len]; omega), rd_vec _ (by omega), ev, vec_len]
end
theorem xor8 {x : Int} (a b : F) (hx : x = ((a.v : Nat) : Int)) : Go.bits .xor .u8 x ((((b.v : Nat) : Int)) % 256) = (((a + b).v : Nat) : Int) := by
  have ha := a.h
  have hb := b.h
  have hl := xor_lt ha hb
  have e : (((b.v : Nat) : Int)) % 256 = ((b.v : Nat) : Int) := by omega
  have e1 : ∀ n : Nat, n < 256 → (BitVec.ofInt 8 (n : Int)).toNat = n := fun n hn => by rw [BitVec.toNat_ofInt]; omega
  rw [hx, e]
  show IntKind.u8.wrap (((BitVec.ofInt 8 ((a.v : Nat) : Int) ^^^ BitVec.ofInt 8 ((b.v : Nat) : Int)).toNat : Nat) : Int) = ((a.v ^^^ b.v : Nat) : Int)
  rw [BitVec.toNat_xor, e1 _ ha, e1 _ hb, IntKind.wrap_u8]
  omega
theorem cloneB_some (l : List Int) (h : l.length ≤ 1000) : slices_Clone_byte_byte.f l = some l := by
  unfold slices_Clone_byte_byte.f; rw [if_pos (by simp; omega)]
theorem fl_l8 (l : List Int) (hb : Bytes l) (hN : l.length ≤ 255) {n R : Nat} (hn : n ≤ R) (hR : R ≤ 16) (g : Nat → Nat) (hg : ∀ t, t < n → g t < l.length) (M : Nat → Nat → F) :
    ∀ d i, i + d = n → Ev (fun k => impl_fill.l8 k (n : Int) (mat R (n + 1) M) (vec l.length fun p => (addAt (wF l) g (fun t => M t n) i p).v) (vec n g) (n : Int) (i : Int)) (vec l.length fun p => (addAt (wF l) g (fun t => M t n) n p).v, true) := by
  intro d
  induction d with
  | zero =>
    intro i hd
    obtain rfl : i = n := by omega
    exact Ev.fin (fun k => by rw [impl_fill.l8, if_neg (by omega)])
  | succ d ih =>
    intro i hd
    have hi : i < n := by omega
    have hq := hg i hi
    have er : rd_L2 (mat R (n + 1) M) (i : Int) = vec (n + 1) fun t => (M i t).v := rdf_mat (by omega)
    refine Ev.step (fun k => ?_) (ih (i + 1) (by omega))
    rw [impl_fill.l8, if_pos (by omega), if_pos (by omega), if_pos (by rw [vec_len]; omega), rd_vec _ hi, if_pos (by omega), if_pos (by rw [vec_len]; omega), if_pos (by rw [mat_len]; omega), if_pos (by omega), er, if_pos (by rw [vec_len]; omega), rd_vec _ hq, rd_vec (L := n + 1) _ (by omega), xor8 (addAt (wF l) g (fun t => M t n) i (g i)) (M i n) rfl, Int.toNat_natCast, set_vec _ _ hq, wsucc (by omega)]
    congr 1
    exact vec_congr fun p _ => by
      unfold upd
      show _ = (if p = g i then addAt (wF l) g (fun t => M t n) i p + M i n else addAt (wF l) g (fun t => M t n) i p : F).v
      by_cases h : p = g i
      · rw [if_pos h, if_pos h, h]
      · rw [if_neg h, if_neg h]
theorem fl_l7 (l : List Int) (hb : Bytes l) (hN : l.length ≤ 255) {n R : Nat} (hn : n ≤ R) (hR : R ≤ 16) (g : Nat → Nat) (hg : ∀ t, t < n → g t < l.length) (M : Nat → Nat → F) :
    ∀ d i, i + d = R - n → (∀ t, t < i → M (n + t) n = 0) → ∃ r, Ev (fun k => impl_fill.l7 k l (vec n g) (n : Int) (mat R (n + 1) M) (mat (R - n) (n + 1) (fun i j => M (n + i) j)) ((R - n : Nat) : Int) (i : Int)) r ∧
      ((r = ([], false) ∧ ∃ t, n ≤ t ∧ t < R ∧ M t n ≠ 0) ∨ (r = (vec l.length fun p => (addAt (wF l) g (fun t => M t n) n p).v, true) ∧ ∀ t, n ≤ t → t < R → M t n = 0)) := by
  intro d
  induction d with
  | zero =>
    intro i hd h0
    refine ⟨_, ?_, .inr ⟨rfl, fun t h1 h2 => ?_⟩⟩
    · have h8 := fl_l8 l hb hN hn hR g hg M n 0 (by omega)
      have e : (vec l.length fun p => (addAt (wF l) g (fun t => M t n) 0 p).v) = l := (wF_vec hb).symm
      rw [e] at h8
      refine Ev.step (fun k => ?_) h8
      rw [impl_fill.l7, if_neg (by omega), cloneB_some l (by omega), Option.bind_some, vec_len]; rfl
    · have := h0 (t - n) (by omega)
      rw [show n + (t - n) = t by omega] at this
      exact this
  | succ d ih =>
    intro i hd h0
    have hi : i < R - n := by omega
    have er : rd_L2 (mat (R - n) (n + 1) (fun i j => M (n + i) j)) (i : Int) = vec (n + 1) fun t => (M (n + i) t).v := rdf_mat hi
    by_cases e : M (n + i) n = 0
    · obtain ⟨r, r1, r2⟩ := ih (i + 1) (by omega) (fun t ht => by
        by_cases et : t = i
        · rw [et]; exact e
        · exact h0 t (by omega))
      refine ⟨r, Ev.step (fun k => ?_) r1, r2⟩
      rw [impl_fill.l7, if_pos (by omega), if_pos (by omega), if_pos (by rw [mat_len]; omega), if_pos (by omega), er, if_pos (by rw [vec_len]; omega), rd_vec _ (by omega), if_pos ((v_eq0 _).2 e), wsucc (by omega)]
    · refine ⟨([], false), Ev.fin (fun k => ?_), .inl ⟨rfl, n + i, by omega, by omega, e⟩⟩
      rw [impl_fill.l7, if_pos (by omega), if_pos (by omega), if_pos (by rw [mat_len]; omega), if_pos (by omega), er, if_pos (by rw [vec_len]; omega), rd_vec _ (by omega), if_neg (fun h => e ((v_eq0 _).1 h))]
/-- What fill gives: the word with the one solution at the places, or nothing where there is none. -/
theorem fill_ev (l : List Int) (hb : Bytes l) (m : Nat) (hm : 1 ≤ m ∧ m ≤ 8) (hN : l.length ≤ 255) {n : Nat} (hn : n ≤ 2 * m) (g : Nat → Nat) (hg : ∀ t, t < n → g t < l.length) (hd : ∀ i j, i < j → j < n → g i < g j) :
    ∃ r, Ev (fun k => impl_fill.f k l (vec n g) (m : Int)) r ∧
      ((r = ([], false) ∧ ∀ z, z n = 1 → ¬ ker (2 * m) n (sysM l.length n g (syn l.length (wF l))) z) ∨
       ∃ s : Nat → F, r = (vec l.length fun p => (addAt (wF l) g s n p).v, true) ∧ ∀ z, z n = 1 → (ker (2 * m) n (sysM l.length n g (syn l.length (wF l))) z ↔ ∀ i, i < n → z i = s i)) := by
  obtain ⟨M', m1, m2, m3⟩ := fl_l2 l (vec n g) hn (by omega : 2 * m ≤ 16) n 0 (sysM l.length n g (syn l.length (wF l))) (by omega) (fun i j _ h => by omega) (fun z h h0 => sys_free hN hg hd hn h h0)
  obtain ⟨r, r1, r2⟩ := fl_l7 l hb hN hn (by omega : 2 * m ≤ 16) g hg M' (2 * m - n) 0 (by omega) (fun t h => by omega)
  have hs : Ev (fun k => impl_fill.l2 k l (vec n g) (n : Int) (mat (2 * m) (n + 1) M') (n : Int) (n : Int)) r := by
    refine Ev.step (fun k => ?_) r1
    rw [impl_fill.l2, if_neg (by omega), if_pos (by omega), if_pos (by rw [mat_len]; omega), Int.toNat_natCast, mat_drop, Option.bind_some, mat_len]; rfl
  have hf := fl_l0 l hb hN hn (by omega : 2 * m ≤ 16) g hg (m3 r hs) (2 * m) 0 (by omega)
  refine ⟨r, ?_, ?_⟩
  · unfold impl_fill.f
    have e : wrap64 (2 * (m : Int)) = ((2 * m : Nat) : Int) := by rw [w64 (by omega) (by omega)]; omega
    rw [e, Int.toNat_natCast]
    refine Ev.pos (by omega) (Ev.pos (by omega) (Ev.bind (Ev.now _) ?_))
    rw [List.length_replicate, vec_len, bld_none (sysM l.length n g (syn l.length (wF l))) (2 * m) n]
    exact hf
  · rcases r2 with ⟨e, t, t1, t2, t3⟩ | ⟨e, h0⟩
    · refine .inl ⟨e, fun z hz hk => ?_⟩
      exact t3 (((gj_done m1 hn z hz).1 ((m2 z).2 hk)).2 t t1 t2)
    · refine .inr ⟨fun t => M' t n, e, fun z hz => ?_⟩
      rw [← m2 z, gj_done m1 hn z hz]
      exact ⟨fun h => h.1, fun h => ⟨h, h0⟩⟩
theorem clean_addAt (l : List Int) (m : Nat) {n : Nat} (g : Nat → Nat) (hg : ∀ t, t < n → g t < l.length) (s : Nat → F) : cleanG (vec l.length fun p => (addAt (wF l) g s n p).v) (2 * m) 0 = true ↔ ker (2 * m) n (sysM l.length n g (syn l.length (wF l))) (fun t => if t < n then s t else 1) := by
  have key : ∀ j, syn (vec l.length fun p => (addAt (wF l) g s n p).v).length (wF (vec l.length fun p => (addAt (wF l) g s n p).v)) j = lin n (sysM l.length n g (syn l.length (wF l)) j) (fun t => if t < n then s t else 1) := by
    intro j
    rw [vec_len, lin_sys, if_neg (Nat.lt_irrefl n), F.mul_one, F.add_comm]
    have e : syn l.length (wF (vec l.length fun p => (addAt (wF l) g s n p).v)) j = syn l.length (addAt (wF l) g s n) j := sm_congr _ fun p hp => by
      show wF _ p * _ = _
      rw [vec_wF _ hp]
    rw [e, syn_addAt l.length (wF l) g s j n hg]
    congr 1
    exact sm_congr _ fun t ht => by rw [if_pos ht]
  rw [clean_syn _ (vec_bytes _ _)]
  constructor
  · intro h i hi
    rw [← key]; exact h i (by omega) (by omega)
  · intro h i _ hi
    rw [key]; exact h i (by omega)
theorem ker_same {R n : Nat} {M : Nat → Nat → F} {z z' : Nat → F} (h : ∀ i, i ≤ n → z i = z' i) (hk : ker R n M z) : ker R n M z' := fun i hi => by
  rw [← hk i hi]
  exact sm_congr _ fun j hj => by rw [h j (by omega)]
theorem ker_z {R n : Nat} {M : Nat → Nat → F} {z s : Nat → F} (hz : z n = 1) (h : ∀ i, i < n → z i = s i) : ker R n M z ↔ ker R n M (fun t => if t < n then s t else 1) := by
  have e : ∀ i, i ≤ n → z i = (fun t => if t < n then s t else 1) i := fun i hi => by
    show z i = if i < n then s i else 1
    by_cases h2 : i < n
    · rw [if_pos h2, h i h2]
    · rw [if_neg h2, show i = n by omega, hz]
  exact ⟨ker_same e, ker_same fun i hi => (e i hi).symm⟩
theorem wordOk_eq (l : List Int) (m : Int) (hm : (Lit.int .i64 m).wf = true) : impl_wordOk.f l m = some (wordB l m) := by
  unfold impl_wordOk.f impl_isMend.f wordB
  have hb := wfi hm
  by_cases h1 : m ≥ 1
  · rw [if_pos h1, Option.bind_some]
    by_cases h2 : m ≤ 8
    · rw [decide_eq_true h2, if_pos rfl, w64 (by omega) (by omega)]
      by_cases h3 : (l.length : Int) > 2 * m
      · rw [if_pos h3]; congr 1; rw [Bool.eq_iff_iff]; simp; omega
      · rw [if_neg h3]; congr 1; symm; rw [decide_eq_false_iff_not]; omega
    · rw [decide_eq_false h2, if_neg (by decide)]; congr 1; symm; rw [decide_eq_false_iff_not]; omega
  · rw [if_neg h1, Option.bind_some, if_neg (by decide)]; congr 1; symm; rw [decide_eq_false_iff_not]; omega
theorem iRsOk_l0 (l : List Int) (hl : l.length ≤ 1048576) (hb : Bytes l) (n : Nat) (hn : n ≤ 16) : ∀ (d j : Nat), j + d = n → Ev (fun k => impl_RsOk.l0 k l (n : Int) (j : Int)) (cleanG l d j) := by
  intro d
  induction d with
  | zero =>
    intro j hd
    exact Ev.fin (fun k => by rw [impl_RsOk.l0, if_neg (by omega)]; rfl)
  | succ d ih =>
    intro j hd
    unfold cleanG
    refine Ev.step (fun k => by rw [impl_RsOk.l0, if_pos (by omega)]) (Ev.bind (ivalue_ev l j hl hb) ?_)
    by_cases h : valP l j = 0
    · rw [wsucc (by omega)]
      refine Ev.cast (Ev.pos (by omega) (ih (j + 1) (by omega))) (by rw [h]; rfl)
    · refine Ev.cast (Ev.neg (by omega) (Ev.now false)) ?_
      rw [beq_eq_false_iff_ne.mpr h, Bool.false_and]
def rsOkM (l : List Int) (m : Int) : Bool := wordB l m && cleanG l (2 * m.toNat) 0
theorem iRsOk_ev (l : List Int) (m : Int) (hl : l.length ≤ 1048576) (hb : Bytes l) (hm : (Lit.int .i64 m).wf = true) : Ev (fun k => impl_RsOk.f k l m) (rsOkM l m) := by
  unfold impl_RsOk.f rsOkM
  refine Ev.bind0 (wordOk_eq l m hm) ?_
  by_cases h : wordB l m = true
  · have hh := of_decide_eq_true h
    rw [h, Bool.true_and]
    obtain ⟨m, rfl⟩ : ∃ n : Nat, m = n := ⟨m.toNat, by omega⟩
    have e : wrap64 (2 * (m : Int)) = ((2 * m : Nat) : Int) := by rw [w64 (by omega) (by omega)]; omega
    rw [e, Int.toNat_natCast]
    exact Ev.pos rfl (iRsOk_l0 l hl hb (2 * m) (by omega) (2 * m) 0 (by omega))
  · rw [Bool.eq_false_iff.mpr h, Bool.false_and]
    exact Ev.neg (by decide) (Ev.now _)
theorem take_vec {t s : Nat} (h : s ≤ t) (r : Nat → Nat) : (vec t r).take s = vec s r := by
  unfold vec
  rw [← List.map_take, List.take_range, Nat.min_eq_left h]
theorem vec_pad {t : Nat} {c : Nat → F} (h : c t = 0) : (vec t fun i => (c i).v) ++ [(0 : Int)] = vec (t + 1) fun i => (c i).v := by
  rw [← vec_append t c, h]; rfl
theorem loc_l4 (c : Nat → F) : ∀ t, t ≤ 1000 → ∃ t', t' ≤ t ∧ Ev (fun k => impl_locator.l4 k (vec t fun i => (c i).v)) (vec t' fun i => (c i).v) ∧ (∀ i, t' ≤ i → i < t → c i = 0) ∧ (t' = 0 ∨ c (t' - 1) ≠ 0)
  | 0, _ => ⟨0, Nat.le_refl _, Ev.fin (fun k => by rw [impl_locator.l4, if_neg (by rw [vec_len]; omega)]), fun i h1 h2 => absurd h2 (Nat.not_lt_zero i), .inl rfl⟩
  | t + 1, ht => by
    have e1 : wrap64 (((t + 1 : Nat) : Int) - 1) = (t : Int) := by rw [w64 (by omega) (by omega)]; omega
    by_cases h : c t = 0
    · obtain ⟨t', h1, h2, h3, h4⟩ := loc_l4 c t (by omega)
      refine ⟨t', by omega, Ev.step (fun k => ?_) h2, fun i hi hi2 => ?_, h4⟩
      · rw [impl_locator.l4, if_pos (by rw [vec_len]; omega), vec_len, e1, if_pos (by omega), if_pos (by omega), rd_vec _ (by omega), if_pos ((v_eq0 _).2 h), if_pos (by omega), Int.toNat_natCast, take_vec (by omega)]
      · by_cases e : i = t
        · rw [e]; exact h
        · exact h3 i hi (by omega)
    · refine ⟨t + 1, Nat.le_refl _, Ev.fin (fun k => ?_), fun i h1 h2 => by omega, .inr h⟩
      rw [impl_locator.l4, if_pos (by rw [vec_len]; omega), vec_len, e1, if_pos (by omega), if_pos (by omega), rd_vec _ (by omega), if_neg (fun e => h ((v_eq0 _).1 e))]
theorem loc_l1 (S c : Nat → F) {R n l t : Nat} (hR : R ≤ 16) (hn : n < R) (hl : l ≤ n) (ht : ∀ i, t ≤ i → c i = 0) (x4 : List Int) (m last : Int) {r : List Int}
    (next : Ev (fun k => impl_locator.j2 k (vec R fun i => (S i).v) (vec t fun i => (c i).v) x4 (l : Int) m last (n : Int) (((dsc c S l n).v : Nat) : Int) (R : Int) (n : Int)) r) :
    ∀ d i, i + d = l + 1 → Ev (fun k => impl_locator.l1 k (vec R fun i => (S i).v) (vec t fun i => (c i).v) x4 (l : Int) m last (n : Int) (((sm i (fun j => c j * S (n - j))).v : Nat) : Int) (i : Int) (R : Int) (n : Int)) r := by
  intro d
  induction d with
  | zero =>
    intro i hd
    obtain rfl : i = l + 1 := by omega
    exact Ev.step (fun k => by rw [impl_locator.l1, if_neg (by omega)]; rfl) next
  | succ d ih =>
    intro i hd
    by_cases h : i < t
    · have e1 : wrap64 ((n : Int) - (i : Int)) = ((n - i : Nat) : Int) := by rw [w64 (by omega) (by omega)]; omega
      refine Ev.step (fun k => by rw [impl_locator.l1, if_pos (by omega), if_pos (by rw [vec_len]; omega), if_pos (by omega), e1, if_pos (by omega), if_pos (by rw [vec_len]; omega), rd_vec _ h, rd_vec _ (by omega)]) (Ev.bind (iGfMul_ev _ _) ?_)
      rw [mulF, xorF, wsucc (by omega)]
      exact ih (i + 1) (by omega)
    · have e : dsc c S l n = sm i (fun j => c j * S (n - j)) := sm_pad (by omega) fun j h1 _ => by rw [ht j (by omega), F.zero_mul]
      rw [e] at next
      exact Ev.step (fun k => by rw [impl_locator.l1, if_pos (by omega), if_neg (by rw [vec_len]; omega)]) next
theorem loc_l2 (S c b : Nat → F) {R n t tb m : Nat} (hm : m ≤ 100) (htb : tb ≤ 100) (ht : ∀ i, t ≤ i → c i = 0) (x5 last disc : Int) (old : List Int) (f : Int) {r : List Int} :
    ∀ d s, s + d = max t (tb + m) → t ≤ s → Ev (fun k => impl_locator.l3 k (vec R fun i => (S i).v) (vec (max t (tb + m)) fun i => (c i).v) (vec tb fun i => (b i).v) x5 (m : Int) last (n : Int) disc old f (R : Int) (n : Int) (vec tb fun i => (b i).v) (tb : Int) 0) r →
    Ev (fun k => impl_locator.l2 k (vec R fun i => (S i).v) (vec s fun i => (c i).v) (vec tb fun i => (b i).v) x5 (m : Int) last (n : Int) disc old f (R : Int) (n : Int)) r := by
  have e1 : wrap64 ((tb : Int) + (m : Int)) = ((tb + m : Nat) : Int) := by rw [w64 (by omega) (by omega)]; omega
  intro d
  induction d with
  | zero =>
    intro s hd _ h
    obtain rfl : s = max t (tb + m) := by omega
    exact Ev.step (fun k => by rw [impl_locator.l2, vec_len, vec_len, e1, if_neg (by omega)]) h
  | succ d ih =>
    intro s hd hs h
    have h2 := ih (s + 1) (by omega) (by omega) h
    refine Ev.step (fun k => ?_) h2
    rw [impl_locator.l2, vec_len, vec_len, e1, if_pos (by omega), if_pos (by omega), vec_pad (ht s hs)]
theorem cloneI_le (l : List Int) (h : l.length ≤ 1000) : slices_Clone_int_int.f l = some l := by
  unfold slices_Clone_int_int.f; rw [if_pos (by simp; omega)]
def pmd (c b : Nat → F) (f : F) (m j i : Nat) : F := c i + if m ≤ i ∧ i < m + j then f * b (i - m) else 0
theorem loc_l3 (S c b : Nat → F) {R n T tb m : Nat} (f : F) (hm : m ≤ 100) (hT : tb + m ≤ T) (hT2 : T ≤ 1000) (x5 last disc : Int) (old : List Int) {r : List Int}
    (next : Ev (fun k => if (wrap64 (2 * x5)) ≤ (n : Int) then (impl_locator.l0 k (vec R fun i => (S i).v) (vec T fun i => (pmd c b f m tb i).v) old (wrap64 ((wrap64 ((n : Int) + 1)) - x5)) 1 disc (R : Int) (wrap64 ((n : Int) + 1))) else (impl_locator.l0 k (vec R fun i => (S i).v) (vec T fun i => (pmd c b f m tb i).v) (vec tb fun i => (b i).v) x5 (wrap64 ((m : Int) + 1)) last (R : Int) (wrap64 ((n : Int) + 1)))) r) :
    ∀ d j, j + d = tb → Ev (fun k => impl_locator.l3 k (vec R fun i => (S i).v) (vec T fun i => (pmd c b f m j i).v) (vec tb fun i => (b i).v) x5 (m : Int) last (n : Int) disc old ((f.v : Nat) : Int) (R : Int) (n : Int) (vec tb fun i => (b i).v) (tb : Int) (j : Int)) r := by
  intro d
  induction d with
  | zero =>
    intro j hd
    obtain rfl : j = tb := by omega
    exact Ev.step (fun k => by rw [impl_locator.l3, if_neg (by omega)]) next
  | succ d ih =>
    intro j hd
    have e1 : wrap64 ((j : Int) + (m : Int)) = ((j + m : Nat) : Int) := by rw [w64 (by omega) (by omega)]; omega
    have ex : pmd c b f m j (j + m) = c (j + m) := by unfold pmd; rw [if_neg (by omega), F.add_zero]
    refine Ev.step (fun k => by rw [impl_locator.l3, if_pos (by omega), if_pos (by omega), if_pos (by rw [vec_len]; omega), e1, if_pos (by omega), if_pos (by rw [vec_len]; omega), rd_vec _ (by omega : j < tb), rd_vec _ (by omega : j + m < T), ex]) (Ev.bind (iGfMul_ev _ _) ?_)
    rw [mulF, xorF, Int.toNat_natCast, set_vec _ _ (by omega : j + m < T), wsucc (by omega)]
    have h := ih (j + 1) (by omega)
    have ev : (vec T fun i => (pmd c b f m (j + 1) i).v) = vec T (upd (fun i => (pmd c b f m j i).v) (j + m) (c (j + m) + f * b j).v) := vec_congr fun i _ => by
      unfold upd
      by_cases e : i = j + m
      · rw [if_pos e]; unfold pmd
        rw [if_pos (by omega), e, show j + m - m = j by omega]
      · rw [if_neg e]
        show (c i + if m ≤ i ∧ i < m + (j + 1) then f * b (i - m) else 0).v = (c i + if m ≤ i ∧ i < m + j then f * b (i - m) else 0).v
        by_cases e2 : m ≤ i ∧ i < m + j
        · rw [if_pos e2, if_pos (by omega)]
        · rw [if_neg e2, if_neg (by omega)]
    rw [ev] at h
    exact h
theorem loc_l0 (S : Nat → F) {R : Nat} (hR : R ≤ 16) : ∀ d n, n + d = R → ∀ (c b : Nat → F) (l lb Nb t tb : Nat) (last : F), Bm.Inv S n c b l lb Nb last → t ≤ n + 1 → tb ≤ Nb + 1 → (∀ i, t ≤ i → c i = 0) → (∀ i, tb ≤ i → b i = 0) → (∀ v X Y, S = sy v X Y → (∀ i j, i < j → j < v → X i ≠ X j) → l ≤ v) →
    ∃ (t' l' : Nat) (c' : Nat → F), Ev (fun k => impl_locator.l0 k (vec R fun i => (S i).v) (vec t fun i => (c i).v) (vec tb fun i => (b i).v) (l : Int) ((n + 1 - Nb : Nat) : Int) ((last.v : Nat) : Int) (R : Int) (n : Int)) (vec t' fun i => (c' i).v) ∧ t' ≤ R + 1 ∧ c' 0 = 1 ∧ (∀ i, l' < i → c' i = 0) ∧ (∀ m, l' ≤ m → m < R → dsc c' S l' m = 0) ∧ (∀ v X Y, S = sy v X Y → (∀ i j, i < j → j < v → X i ≠ X j) → l' ≤ v) ∧ (t' = 0 ∨ c' (t' - 1) ≠ 0) ∧ ∀ i, t' ≤ i → c' i = 0 := by
  intro d
  induction d with
  | zero =>
    intro n hd c b l lb Nb t tb last I ht htb hc hb hv
    obtain rfl : n = R := by omega
    obtain ⟨t', h1, h2, h3, h4⟩ := loc_l4 c t (by omega)
    refine ⟨t', l, c, Ev.step (fun k => by rw [impl_locator.l0, if_neg (by omega)]) h2, by omega, I.c0, I.ch, I.cg, hv, h4, fun i hi => ?_⟩
    by_cases e : i < t
    · exact h3 i hi e
    · exact hc i (by omega)
  | succ d ih =>
    intro n hd c b l lb Nb t tb last I ht htb hc hb hv
    have hn : n < R := by omega
    have hNb := I.Nbn
    have hln := I.ln
    have hc0 : (S n) = sm 1 (fun j => c j * S (n - j)) := by
      show S n = 0 + c 0 * S (n - 0)
      rw [I.c0, F.one_mul, F.zero_add]; rfl
    have h0 : ∀ r, Ev (fun k => impl_locator.j2 k (vec R fun i => (S i).v) (vec t fun i => (c i).v) (vec tb fun i => (b i).v) (l : Int) ((n + 1 - Nb : Nat) : Int) ((last.v : Nat) : Int) (n : Int) (((dsc c S l n).v : Nat) : Int) (R : Int) (n : Int)) r → Ev (fun k => impl_locator.l0 k (vec R fun i => (S i).v) (vec t fun i => (c i).v) (vec tb fun i => (b i).v) (l : Int) ((n + 1 - Nb : Nat) : Int) ((last.v : Nat) : Int) (R : Int) (n : Int)) r := by
      intro r h
      have h1 := loc_l1 S c hR hn hln hc (vec tb fun i => (b i).v) ((n + 1 - Nb : Nat) : Int) ((last.v : Nat) : Int) h l 1 (by omega)
      refine Ev.step (fun k => ?_) h1
      rw [impl_locator.l0, if_pos (by omega), if_pos (by omega), if_pos (by rw [vec_len]; omega), rd_vec _ hn, hc0]; rfl
    by_cases hd0 : dsc c S l n = 0
    · obtain ⟨t', l', c', a1, a2⟩ := ih (n + 1) (by omega) c b l lb Nb t tb last (Bm.inv_same I hd0) (by omega) htb hc hb hv
      refine ⟨t', l', c', h0 _ (Ev.step (fun k => ?_) a1), a2⟩
      rw [impl_locator.j2, if_pos ((v_eq0 _).2 hd0), wsucc (by omega), wsucc (by omega), show n + 1 - Nb + 1 = n + 1 + 1 - Nb by omega]
    · have hf : dsc c S l n * F.inv last * last = dsc c S l n := by rw [F.mul_assoc, F.mul_comm (F.inv last), F.mul_inv I.l0, F.mul_one]
      have hmid : ∀ r, Ev (fun k => if (wrap64 (2 * (l : Int))) ≤ (n : Int) then (impl_locator.l0 k (vec R fun i => (S i).v) (vec (max t (tb + (n + 1 - Nb))) fun i => (mended c b (dsc c S l n * F.inv last) (n + 1 - Nb) i).v) (vec t fun i => (c i).v) (wrap64 ((wrap64 ((n : Int) + 1)) - (l : Int))) 1 (((dsc c S l n).v : Nat) : Int) (R : Int) (wrap64 ((n : Int) + 1))) else (impl_locator.l0 k (vec R fun i => (S i).v) (vec (max t (tb + (n + 1 - Nb))) fun i => (mended c b (dsc c S l n * F.inv last) (n + 1 - Nb) i).v) (vec tb fun i => (b i).v) (l : Int) (wrap64 (((n + 1 - Nb : Nat) : Int) + 1)) ((last.v : Nat) : Int) (R : Int) (wrap64 ((n : Int) + 1)))) r →
          Ev (fun k => impl_locator.l0 k (vec R fun i => (S i).v) (vec t fun i => (c i).v) (vec tb fun i => (b i).v) (l : Int) ((n + 1 - Nb : Nat) : Int) ((last.v : Nat) : Int) (R : Int) (n : Int)) r := by
        intro r h
        have ev : (vec (max t (tb + (n + 1 - Nb))) fun i => (pmd c b (dsc c S l n * F.inv last) (n + 1 - Nb) tb i).v) = vec (max t (tb + (n + 1 - Nb))) fun i => (mended c b (dsc c S l n * F.inv last) (n + 1 - Nb) i).v := vec_congr fun i _ => by
          unfold pmd mended
          by_cases e2 : n + 1 - Nb ≤ i
          · rw [if_pos e2]
            by_cases e3 : i < n + 1 - Nb + tb
            · rw [if_pos ⟨e2, e3⟩]
            · rw [if_neg (fun e => e3 e.2), hb _ (by omega), F.mul_zero]
          · rw [if_neg e2, if_neg (fun e => e2 e.1)]
        rw [← ev] at h
        have h3 := loc_l3 S c b (m := n + 1 - Nb) (tb := tb) (dsc c S l n * F.inv last) (by omega) (by omega) (by omega) (l : Int) ((last.v : Nat) : Int) (((dsc c S l n).v : Nat) : Int) (vec t fun i => (c i).v) h tb 0 (by omega)
        have ev0 : (vec (max t (tb + (n + 1 - Nb))) fun i => (pmd c b (dsc c S l n * F.inv last) (n + 1 - Nb) 0 i).v) = vec (max t (tb + (n + 1 - Nb))) fun i => (c i).v := vec_congr fun i _ => by
          unfold pmd; rw [if_neg (by omega), F.add_zero]
        rw [ev0] at h3
        have h2 := loc_l2 S c b (m := n + 1 - Nb) (tb := tb) (by omega) (by omega) hc (l : Int) ((last.v : Nat) : Int) (((dsc c S l n).v : Nat) : Int) (vec t fun i => (c i).v) (((dsc c S l n * F.inv last).v : Nat) : Int) (max t (tb + (n + 1 - Nb)) - t) t (by omega) (Nat.le_refl _) h3
        refine h0 r (Ev.step (fun k => by rw [impl_locator.j2, if_neg (fun e => hd0 ((v_eq0 _).1 e))]) (Ev.bind0 (cloneI_le _ (by rw [vec_len]; omega)) (Ev.bind (iGfInv_ev _) ?_)))
        rw [invF I.l0]
        refine Ev.bind (iGfMul_ev _ _) ?_
        rw [mulF]; exact h2
      have e2 : wrap64 (2 * (l : Int)) = ((2 * l : Nat) : Int) := by rw [w64 (by omega) (by omega)]; omega
      have hz : ∀ i, max t (tb + (n + 1 - Nb)) ≤ i → mended c b (dsc c S l n * F.inv last) (n + 1 - Nb) i = 0 := fun i hi => by
        unfold mended
        rw [hc i (by omega), F.zero_add, if_pos (by omega), hb _ (by omega), F.mul_zero]
      by_cases h2l : 2 * l ≤ n
      · obtain ⟨t', l', c', a1, a2⟩ := ih (n + 1) (by omega) _ c (n + 1 - l) l (n + 1) (max t (tb + (n + 1 - Nb))) t _ (Bm.inv_more I hf hd0 h2l) (by omega) (by omega) hz hc (fun v X Y hS hX => by
          subst hS
          have := Bm.bound hX I.cg hln hd0
          omega)
        refine ⟨t', l', c', hmid _ (Ev.pos (by rw [e2]; omega) ?_), a2⟩
        have e3 : wrap64 ((((n + 1 : Nat) : Int)) - (l : Int)) = ((n + 1 - l : Nat) : Int) := by rw [w64 (by omega) (by omega)]; omega
        rw [wsucc (by omega), e3]
        rw [show n + 1 + 1 - (n + 1) = 1 by omega] at a1
        exact a1
      · obtain ⟨t', l', c', a1, a2⟩ := ih (n + 1) (by omega) _ b l lb Nb (max t (tb + (n + 1 - Nb))) tb last (Bm.inv_keep I hf (by omega)) (by omega) htb hz hb hv
        refine ⟨t', l', c', hmid _ (Ev.neg (by rw [e2]; omega) ?_), a2⟩
        rw [wsucc (by omega), wsucc (by omega), show n + 1 - Nb + 1 = n + 1 + 1 - Nb by omega]
        exact a1
theorem loc_ev (S : Nat → F) {R : Nat} (hR : R ≤ 16) : ∃ (t : Nat) (c : Nat → F), Ev (fun k => impl_locator.f k (vec R fun i => (S i).v)) (vec t fun i => (c i).v) ∧ t ≤ 17 ∧
    ∀ v X Y, S = sy v X Y → (∀ i j, i < j → j < v → X i ≠ X j) → (∀ i, i < v → X i ≠ 0) → (∀ i, i < v → Y i ≠ 0) → 2 * v ≤ R → t = v + 1 ∧ (∀ i, i < v → crev c v (X i) = 0) ∧ ∀ z, (∀ i, i < v → z ≠ X i) → crev c v z ≠ 0 := by
  have hz : ∀ i, 0 < i → (fun i => if i = 0 then (1 : F) else 0) i = 0 := fun i hi => if_neg (by omega)
  obtain ⟨t, l, c, a1, a2, a3, a4, a5, a6, a7, a8⟩ := loc_l0 S hR R 0 (by omega) (fun i => if i = 0 then 1 else 0) (fun i => if i = 0 then 1 else 0) 0 0 0 1 1 1 (Bm.inv_start S rfl hz) (by omega) (by omega) (fun i hi => hz i (by omega)) (fun i hi => hz i (by omega)) (fun v X Y _ _ => Nat.zero_le v)
  refine ⟨t, c, ?_, by omega, fun v X Y hS hX hX0 hY hv => ?_⟩
  · unfold impl_locator.f
    rw [vec_len]; exact a1
  · have hl := a6 v X Y hS hX
    subst hS
    obtain ⟨r1, r2, r3, r4⟩ := Bm.regs hX hX0 hY hv hl a3 a5
    refine ⟨?_, r3, r4⟩
    subst r1
    rcases Nat.lt_trichotomy t (l + 1) with h | h | h
    · exact absurd (a8 l (by omega)) r2
    · exact h
    · rcases a7 with h2 | h2
      · omega
      · exact absurd (a4 (t - 1) (by omega)) h2
/-! ### The places -/
def zp (N p : Nat) : F := pw al (255 - (N - 1 - p))
def qr (c : Nat → F) (t N p : Nat) : Bool := decide (hrn c (zp N p) t 0 = 0)
theorem im_l2 (l : List Int) (m : Int) (c : Nat → F) (t : Nat) (ht : t ≤ 1000) (acc : List Int) (ha : acc.length ≤ 1000) (p : Int) (z : F) {n : Int} {r : List Int × Int × Bool}
    (next : Ev (fun k => impl_RsMend.l1 k l m (vec t fun i => (c i).v) (if hrn c z t 0 = 0 then acc ++ [p] else acc) n (wrap64 (p + 1))) r) :
    ∀ i, i ≤ t → Ev (fun k => impl_RsMend.l2 k l m (vec t fun i => (c i).v) acc p ((z.v : Nat) : Int) (((hrn c z t i).v : Nat) : Int) ((i : Int) - 1) n p) r := by
  intro i
  induction i with
  | zero =>
    intro _
    refine Ev.step (fun k => ?_) next
    rw [impl_RsMend.l2, if_neg (by omega)]
    by_cases h : hrn c z t 0 = 0
    · rw [if_pos ((v_eq0 _).2 h), if_pos (by omega), if_pos h]
    · rw [if_neg (fun e => h ((v_eq0 _).1 e)), if_neg h]
  | succ i ih =>
    intro hi
    have e0 : ((i + 1 : Nat) : Int) - 1 = (i : Int) := by omega
    have e1 : wrap64 ((i : Int) - 1) = (i : Int) - 1 := w64 (by omega) (by omega)
    rw [e0]
    refine Ev.step (fun k => by rw [impl_RsMend.l2, if_pos (by omega)]) (Ev.bind (iGfMul_ev _ _) ?_)
    refine Ev.pos (by omega) (Ev.pos (by rw [vec_len]; omega) ?_)
    rw [mulF, rd_vec _ (by omega), xorF, hrn_step c z (by omega), e1]
    exact ih (by omega)
theorem im_l1 (l : List Int) (hN : l.length ≤ 255) (m : Int) (c : Nat → F) (t : Nat) (ht : t ≤ 1000) {r : List Int × Int × Bool}
    (next : Ev (fun k => impl_RsMend.l1 k l m (vec t fun i => (c i).v) (ints (pl (qr c t l.length) l.length)) (l.length : Int) (l.length : Int)) r) :
    ∀ d p, p + d = l.length → Ev (fun k => impl_RsMend.l1 k l m (vec t fun i => (c i).v) (ints (pl (qr c t l.length) p)) (l.length : Int) (p : Int)) r := by
  intro d
  induction d with
  | zero =>
    intro p hd
    obtain rfl : p = l.length := by omega
    exact next
  | succ d ih =>
    intro p hd
    have hp : p < l.length := by omega
    have hl := pl_len_le (qr c t l.length) p
    have e1 : wrap64 (255 - (Int.tmod (wrap64 ((wrap64 ((l.length : Int) - 1)) - (p : Int))) 255)) = ((255 - (l.length - 1 - p) : Nat) : Int) := by
      have e2 : wrap64 ((wrap64 ((l.length : Int) - 1)) - (p : Int)) = ((l.length - 1 - p : Nat) : Int) := by rw [w64 (n := (l.length : Int) - 1) (by omega) (by omega), w64 (by omega) (by omega)]; omega
      have e3 : Int.tmod ((l.length - 1 - p : Nat) : Int) 255 = (((l.length - 1 - p) % 255 : Nat) : Int) := rfl
      rw [e2, e3, Nat.mod_eq_of_lt (by omega), w64 (by omega) (by omega)]; omega
    have e4 : wrap64 ((t : Int) - 1) = (t : Int) - 1 := w64 (by omega) (by omega)
    refine Ev.step (fun k => by rw [impl_RsMend.l1, if_pos (by omega), e1]) (Ev.bind (igfPow_ev _) ?_)
    rw [pwN_v, vec_len, e4]
    have h := im_l2 l m c t ht (ints (pl (qr c t l.length) p)) (by rw [ints_len]; omega) (p : Int) (zp l.length p) (n := (l.length : Int)) (r := r) (by
      rw [wsucc (by omega)]
      have h2 := ih (p + 1) (by omega)
      by_cases hq : hrn c (zp l.length p) t 0 = 0
      · rw [if_pos hq, ints_snoc, ← pl_pos (show qr c t l.length p = true from decide_eq_true hq)]; exact h2
      · rw [if_neg hq, ← pl_neg (show ¬ qr c t l.length p = true by unfold qr; simpa using hq)]; exact h2) t (Nat.le_refl t)
    rw [hrn_end] at h
    exact h
theorem im_l3 (l : List Int) (hb : Bytes l) (hN : l.length ≤ 255) (u : Nat → F) : ∀ d p, p + d = l.length → Ev (fun k => impl_RsMend.l3 k l (vec l.length fun i => (u i).v) ((dist p (wF l) u : Nat) : Int) (l.length : Int) (p : Int)) (vec l.length fun i => (u i).v, ((dist l.length (wF l) u : Nat) : Int), true) := by
  intro d
  induction d with
  | zero =>
    intro p hd
    obtain rfl : p = l.length := by omega
    exact Ev.fin (fun k => by rw [impl_RsMend.l3, if_neg (by omega)])
  | succ d ih =>
    intro p hd
    have hp : p < l.length := by omega
    have hl := pl_len_le (df (wF l) u) p
    have h := ih (p + 1) (by omega)
    have hd2 : dist p (wF l) u ≤ p := hl
    refine Ev.step (fun k => ?_) h
    rw [impl_RsMend.l3, if_pos (by omega), if_pos (by omega), if_pos (by rw [vec_len]; omega), if_pos (by omega), rd_vec _ hp, wF_rd hb hp, dist_succ, wsucc (i := p) (by omega)]
    by_cases e : wF l p = u p
    · rw [if_pos (by rw [e]), if_pos e]; rfl
    · rw [if_neg (fun h => e (F.ext (by omega))), if_neg e, wsucc (by omega)]
theorem wordB_vec {l : List Int} {m : Int} (u : Nat → F) (h : wordB l m = true) : wordB (vec l.length fun i => (u i).v) m = true := by
  unfold wordB at h ⊢
  rw [vec_len]; exact h
/-- From the places on: a near word, or nothing; and something where the places are a near word's faults. -/
theorem im_tail (l : List Int) (hb : Bytes l) (hN : l.length ≤ 255) (m : Nat) (hm : 1 ≤ m ∧ m ≤ 8) (hwf : (Lit.int .i64 (m : Int)).wf = true) (hw : wordB l (m : Int) = true) (c : Nat → F) (t : Nat) (ht : t ≤ 1000) :
    ∃ r, Ev (fun k => impl_RsMend.l1 k l (m : Int) (vec t fun i => (c i).v) [] (l.length : Int) 0) r ∧ (r = ([], 0, false) ∨ ∃ u, near l.length m (wF l) u ∧ r = (vec l.length fun i => (u i).v, ((dist l.length (wF l) u : Nat) : Int), true)) ∧
      ∀ u, near l.length m (wF l) u → pl (qr c t l.length) l.length = pl (df (wF l) u) l.length → t = dist l.length (wF l) u + 1 → r ≠ ([], 0, false) := by
  have start : ∀ r, Ev (fun k => impl_RsMend.l1 k l (m : Int) (vec t fun i => (c i).v) (ints (pl (qr c t l.length) l.length)) (l.length : Int) (l.length : Int)) r → Ev (fun k => impl_RsMend.l1 k l (m : Int) (vec t fun i => (c i).v) [] (l.length : Int) 0) r := fun r h => im_l1 l hN (m : Int) c t ht h l.length 0 (by omega)
  have e4 : wrap64 ((t : Int) - 1) = (t : Int) - 1 := w64 (by omega) (by omega)
  have hfail : ∀ b : Bool, b = true → Ev (fun k => impl_RsMend.j3 k l (m : Int) (ints (pl (qr c t l.length) l.length)) b) ([], 0, false) := fun b hb => Ev.fin (fun k => by rw [impl_RsMend.j3, if_pos hb])
  have hll := pl_len_le (qr c t l.length) l.length
  by_cases h1 : (pl (qr c t l.length) l.length).length > m
  · refine ⟨([], 0, false), start _ (Ev.step (fun k => by rw [impl_RsMend.l1, if_neg (by omega), if_pos (by rw [ints_len]; omega)]) (hfail true rfl)), .inl rfl, fun u hu he _ => ?_⟩
    exfalso
    have := hu.2
    rw [he] at h1
    exact absurd h1 (Nat.not_lt.2 this)
  · have hn : (pl (qr c t l.length) l.length).length ≤ m := by omega
    by_cases h2 : t = (pl (qr c t l.length) l.length).length + 1
    · have hg : ∀ i, i < (pl (qr c t l.length) l.length).length → (pl (qr c t l.length) l.length).getD i 0 < l.length := fun i hi => (pl_lt _ l.length _ (getD_mem hi)).1
      have hd := pl_inc (qr c t l.length) l.length
      obtain ⟨r, f1, f2⟩ := fill_ev l hb m hm hN (by omega : (pl (qr c t l.length) l.length).length ≤ 2 * m) (fun i => (pl (qr c t l.length) l.length).getD i 0) hg hd
      have go : ∀ r', Ev (fun k => (impl_fill.f k l (ints (pl (qr c t l.length) l.length)) (m : Int)).bind fun bt306 => (if bt306.2 = true then ((impl_RsOk.f k bt306.1 (m : Int)).bind fun t310 => (impl_RsMend.j4 k l bt306.1 (!t310))) else (impl_RsMend.j4 k l bt306.1 true))) r' → Ev (fun k => impl_RsMend.l1 k l (m : Int) (vec t fun i => (c i).v) [] (l.length : Int) 0) r' := by
        intro r' h
        refine start _ (Ev.step (fun k => by rw [impl_RsMend.l1, if_neg (by omega), if_neg (by rw [ints_len]; omega), ints_len, vec_len, e4]) (Ev.step (fun k => ?_) h))
        have e5 : (((pl (qr c t l.length) l.length).length : Int) != (t : Int) - 1) = false := by
          rw [bne_eq_false_iff_eq]; omega
        rw [e5, impl_RsMend.j3, if_neg (by decide)]
      rcases f2 with ⟨rfl, f3⟩ | ⟨s, rfl, f3⟩
      · refine ⟨([], 0, false), go _ (Ev.bind f1 (Ev.neg (fun e => Bool.false_ne_true e) (Ev.fin (fun k => by rw [impl_RsMend.j4, if_pos rfl])))), .inl rfl, fun u hu he _ => ?_⟩
        exfalso
        have hk := sol_near hu
        have hg2 : gs l.length (wF l) u = fun i => (pl (qr c t l.length) l.length).getD i 0 := by rw [he]; rfl
        have hd2 : dist l.length (wF l) u = (pl (qr c t l.length) l.length).length := by rw [he]; rfl
        rw [hg2, hd2] at hk
        exact f3 _ (if_neg (Nat.lt_irrefl _)) hk
      · have hk := (f3 (fun i => if i < (pl (qr c t l.length) l.length).length then s i else 1) (if_neg (Nat.lt_irrefl _))).2 (fun i hi => if_pos hi)
        have hnear := near_put hn hg hk
        have hcl := (clean_addAt l m _ hg s).2 hk
        refine ⟨_, go _ (Ev.bind f1 (Ev.pos rfl (Ev.bind (iRsOk_ev _ (m : Int) (by rw [vec_len]; omega) (vec_bytes _ _) hwf) ?_))), .inr ⟨_, hnear, rfl⟩, fun u hu he _ e => ?_⟩
        · have e6 : rsOkM (vec l.length fun p => (addAt (wF l) (fun i => (pl (qr c t l.length) l.length).getD i 0) s (pl (qr c t l.length) l.length).length p).v) (m : Int) = true := by
            unfold rsOkM
            rw [wordB_vec _ hw, Int.toNat_natCast, hcl]; rfl
          rw [e6]
          refine Ev.step (fun k => by rw [impl_RsMend.j4, if_neg (by decide), vec_len]; rfl) (im_l3 l hb hN _ l.length 0 (by omega))
        · exact absurd (congrArg (fun q => q.2.2) e) (by simp)
    · refine ⟨([], 0, false), start _ (Ev.step (fun k => by rw [impl_RsMend.l1, if_neg (by omega), if_neg (by rw [ints_len]; omega), ints_len, vec_len, e4]) (hfail _ ?_)), .inl rfl, fun u hu he he2 => ?_⟩
      · rw [bne_iff_ne]; omega
      · exfalso
        apply h2
        rw [he]; exact he2
theorem im_l0 (l : List Int) (hb : Bytes l) (hN : l.length ≤ 255) (m : Int) {R : Nat} (hR : R ≤ 16) {r : List Int × Int × Bool}
    (next : Ev (fun k => (impl_locator.f k (vec R fun j => (syn l.length (wF l) j).v)).bind fun t297 => (impl_RsMend.l1 k l m t297 ([] : List Int) (l.length : Int) 0)) r) :
    ∀ d j, j + d = R → Ev (fun k => impl_RsMend.l0 k l m (vec j fun j => (syn l.length (wF l) j).v) (R : Int) (j : Int)) r := by
  intro d
  induction d with
  | zero =>
    intro j hd
    obtain rfl : j = R := by omega
    exact Ev.step (fun k => by rw [impl_RsMend.l0, if_neg (by omega)]) next
  | succ d ih =>
    intro j hd
    refine Ev.step (fun k => by rw [impl_RsMend.l0, if_pos (by omega)]) (Ev.bind (ivalue_ev l j (by omega) hb) ?_)
    refine Ev.pos (by rw [vec_len]; omega) ?_
    rw [valP_syn l hb, vec_append j (syn l.length (wF l)), wsucc (by omega)]
    exact ih (j + 1) (by omega)
/-- RsMend gives the near word, or nothing where there is none. -/
theorem iMend_ev (l : List Int) (hb : Bytes l) (m : Nat) (hm : 1 ≤ m ∧ m ≤ 8) (hwf : (Lit.int .i64 (m : Int)).wf = true) (hN : 2 * m < l.length ∧ l.length ≤ 255) :
    ∃ r, Ev (fun k => impl_RsMend.f k l (m : Int)) r ∧ ((r = ([], 0, false) ∧ ∀ u, ¬ near l.length m (wF l) u) ∨ ∃ u, near l.length m (wF l) u ∧ r = (vec l.length fun i => (u i).v, ((dist l.length (wF l) u : Nat) : Int), true)) := by
  have hw : wordB l (m : Int) = true := by unfold wordB; rw [decide_eq_true_eq]; omega
  have e2 : wrap64 (2 * (m : Int)) = ((2 * m : Nat) : Int) := by rw [w64 (by omega) (by omega)]; omega
  have start : ∀ r, Ev (fun k => (impl_locator.f k (vec (2 * m) fun j => (syn l.length (wF l) j).v)).bind fun t297 => (impl_RsMend.l1 k l (m : Int) t297 ([] : List Int) (l.length : Int) 0)) r → Ev (fun k => impl_RsMend.f k l (m : Int)) r := by
    intro r h
    unfold impl_RsMend.f
    refine Ev.bind0 (wordOk_eq l _ hwf) ?_
    rw [hw, e2]
    exact Ev.pos rfl (im_l0 l hb hN.2 (m : Int) (by omega : 2 * m ≤ 16) h (2 * m) 0 (by omega))
  by_cases hex : ∃ u, near l.length m (wF l) u
  · obtain ⟨u, hu⟩ := hex
    have hv : (vec (2 * m) fun j => (syn l.length (wF l) j).v) = vec (2 * m) fun j => (sy (dist l.length (wF l) u) (fun l' => xp l.length (gs l.length (wF l) u l')) (ys l.length (wF l) u) j).v := vec_congr fun j hj => by rw [syn_near hu hj]
    obtain ⟨t, c, a1, a2, a3⟩ := loc_ev (sy (dist l.length (wF l) u) (fun l' => xp l.length (gs l.length (wF l) u l')) (ys l.length (wF l) u)) (by omega : 2 * m ≤ 16)
    rw [← hv] at a1
    obtain ⟨b1, b2, b3⟩ := a3 _ _ _ rfl (xs_ne hN.2) (fun i _ => al_ne _) (fun i hi => ys_ne hi) (by have := hu.2; omega)
    obtain ⟨r, c1, c2, c3⟩ := im_tail l hb hN.2 m hm hwf hw c t (by omega)
    have hpl : pl (qr c t l.length) l.length = pl (df (wF l) u) l.length := pl_congr l.length fun p hp => by
      have hi := xp_inv hN.2 hp
      have hx : xp l.length p ≠ 0 := al_ne _
      have hiff : hrn c (zp l.length p) t 0 = 0 ↔ crev c (dist l.length (wF l) u) (xp l.length p) = 0 := by
        rw [b1, hrn_ev, crev_inv c _ hi]
        constructor
        · intro h; rw [show ev (dist l.length (wF l) u) c (pw al (255 - (l.length - 1 - p))) = 0 from h, F.mul_zero]
        · intro h; exact (F.mul_eq_zero h).resolve_left (pw_ne hx _)
      rw [Bool.eq_iff_iff, df_xs hN.2 hp]
      unfold qr
      rw [decide_eq_true_eq, hiff]
      constructor
      · intro h
        refine Classical.byContradiction fun hne => b3 (xp l.length p) (fun i hi e => hne ⟨i, hi, e⟩) h
      · rintro ⟨i, hi, e⟩
        rw [e]; exact b2 i hi
    rcases c2 with h | ⟨u', hu', h⟩
    · exact absurd h (c3 u hu hpl b1)
    · exact ⟨r, start r (Ev.bind a1 c1), .inr ⟨u', hu', h⟩⟩
  · obtain ⟨t, c, a1, a2, _⟩ := loc_ev (syn l.length (wF l)) (by omega : 2 * m ≤ 16)
    obtain ⟨r, c1, c2, _⟩ := im_tail l hb hN.2 m hm hwf hw c t (by omega)
    refine ⟨r, start r (Ev.bind a1 c1), ?_⟩
    rcases c2 with h | ⟨u, hu, h⟩
    · exact .inl ⟨h, fun u hu => hex ⟨u, hu⟩⟩
    · exact absurd ⟨u, hu⟩ hex
theorem iMend_no (l : List Int) (m : Int) (hm : (Lit.int .i64 m).wf = true) (h : wordB l m = false) : Ev (fun k => impl_RsMend.f k l m) ([], 0, false) := by
  unfold impl_RsMend.f
  refine Ev.bind0 (wordOk_eq l m hm) ?_
  rw [h]
  exact Ev.neg (by decide) (Ev.now _)
theorem l1In_eq (a b c : Int) : spec_l1In.f a b c = some (decide (b ≤ a ∧ a ≤ c)) := by
  unfold spec_l1In.f
  by_cases h : b ≤ a
  · rw [if_pos h]; simp [h]
  · rw [if_neg h]; simp [h]
theorem l14Byte_eq (a : Int) : spec_l14Byte.f a = some (decide (0 ≤ a ∧ a ≤ 255)) := by
  unfold spec_l14Byte.f
  rw [l1In_eq, Option.bind_some]
theorem shr_nat (x y : Nat) (h : y ≤ 64) : shr .i64 (x : Int) (y : Int) = ((x / 2 ^ y : Nat) : Int) := by
  unfold shr
  rw [Int.toNat_natCast, show min y (IntKind.bits .i64) = y from Nat.min_eq_left h]
  exact (Int.natCast_ediv x (2 ^ y)).symm
theorem sGfMul_l0 (a b : Nat) (ha : a < 256) (hb : b < 256) : ∀ (n p : Nat), n ≤ 8 → p < 256 → Ev (fun k => spec_GfMul.l0 k (a : Int) (b : Int) (p : Int) ((n : Int) - 1)) ((xtN n p ^^^ gmF n a b : Nat) : Int) := by
  intro n
  induction n with
  | zero =>
    intro p _ _
    refine Ev.fin (fun k => ?_)
    rw [spec_GfMul.l0, if_neg (by omega)]
    show some (p : Int) = some ((p ^^^ 0 : Nat) : Int)
    rw [Nat.xor_zero]
  | succ n ih =>
    intro p hn hp
    have hx := xt_lt hp
    refine Ev.cast (Ev.step (fun k => ?_) (ih (xt p ^^^ (if b / 2 ^ n % 2 = 1 then a else 0)) (by omega) (xor_lt hx (by split <;> omega)))) ?_
    · have e2 : wrap64 (2 * (p : Int)) = ((2 * p : Nat) : Int) := by rw [wr (by omega) (by omega)]; omega
      have e1 : ((n + 1 : Nat) : Int) - 1 = (n : Int) := by omega
      have e3 : wrap64 ((n : Int) - 1) = (n : Int) - 1 := w64 (by omega) (by omega)
      have hq : b / 2 ^ n < 256 := Nat.lt_of_le_of_lt (Nat.div_le_self _ _) hb
      have e4 : Int.tmod ((b / 2 ^ n : Nat) : Int) 2 = ((b / 2 ^ n % 2 : Nat) : Int) := rfl
      have hxo : (2 * p) ^^^ 285 < 512 := Nat.xor_lt_two_pow (n := 9) (by omega) (by omega)
      rw [spec_GfMul.l0, e1, if_pos (by omega), e2, u64w (by omega) (by omega), shr_nat b n (by omega), e4, e3, x285 _ (by omega), xor64 (2 * p ^^^ 285) a (by omega) (by omega), xor64 (2 * p) a (by omega) (by omega)]
      unfold xt
      by_cases hc : 2 * p > 255 <;> by_cases ho : b / 2 ^ n % 2 = 1
      · rw [if_pos (by omega), if_pos (by omega), if_pos (by omega), if_pos hc, if_pos ho]
      · rw [if_pos (by omega), if_pos (by omega), if_neg (by omega), if_pos hc, if_neg ho, Nat.xor_zero]
      · rw [if_neg (by omega), if_pos (by omega), if_pos (by omega), if_neg hc, if_pos ho]
      · rw [if_neg (by omega), if_pos (by omega), if_neg (by omega), if_neg hc, if_neg ho, Nat.xor_zero]
    · rw [gmF_top, xtN_xor n hx (by split <;> omega)]
      show ((xtN n (xt p) ^^^ xtN n (if b / 2 ^ n % 2 = 1 then a else 0) ^^^ gmF n a b : Nat) : Int) = ((xtN n (xt p) ^^^ (gmF n a b ^^^ (if b / 2 ^ n % 2 = 1 then xtN n a else 0)) : Nat) : Int)
      rw [Nat.xor_assoc, Nat.xor_comm (gmF n a b)]
      congr 3
      split
      · rfl
      · exact xtN_zero n
theorem sGfMul_ev (a b : Int) : Ev (fun k => spec_GfMul.f k a b) (gmI a b) := by
  unfold spec_GfMul.f gmI
  simp only [l14Byte_eq, Option.bind_some]
  by_cases ha : 0 ≤ a ∧ a ≤ 255
  · refine Ev.pos (by simp [ha]) ?_
    by_cases hb : 0 ≤ b ∧ b ≤ 255
    · rw [if_pos ⟨ha.1, ha.2, hb⟩, decide_eq_true hb]
      obtain ⟨a, rfl⟩ : ∃ n : Nat, a = n := ⟨a.toNat, by omega⟩
      obtain ⟨b, rfl⟩ : ∃ n : Nat, b = n := ⟨b.toNat, by omega⟩
      refine Ev.cast (Ev.step (fun k => ?_) (sGfMul_l0 a b (by omega) (by omega) 8 0 (by omega) (by omega))) ?_
      · rw [spec_GfMul.j0]; rfl
      · rw [xtN_zero, Nat.zero_xor]; rfl
    · rw [if_neg (by omega), decide_eq_false hb]
      refine Ev.fin (fun k => ?_)
      rw [spec_GfMul.j0]; rfl
  · rw [if_neg (by omega)]
    refine Ev.neg (by simpa using ha) (Ev.fin (fun k => ?_))
    rw [spec_GfMul.j0]; rfl
theorem sGfInv_l0 (a : Nat) (h0 : a ≠ 0) (ha : a < 256) : ∀ (d x : Nat), x + d = gp a 254 → Ev (fun k => spec_GfInv.l0 k (a : Int) (x : Int)) ((gp a 254 : Nat) : Int) := by
  have hlt : gp a 254 < 256 := gp_lt 254
  intro d
  induction d with
  | zero =>
    intro x hd
    obtain rfl : x = gp a 254 := by omega
    refine Ev.step (f := fun k => (spec_GfMul.f k (a : Int) ((gp a 254 : Nat) : Int)).bind fun t => if t = 1 then some ((gp a 254 : Nat) : Int) else spec_GfInv.l0 k (a : Int) (wrap64 (((gp a 254 : Nat) : Int) + 1))) (fun k => ?_) ?_
    · rw [spec_GfInv.l0]
    · refine Ev.bind (sGfMul_ev _ _) ?_
      rw [gmI_nat ha hlt, gm_inv h0 ha]
      exact Ev.pos rfl (Ev.now _)
  | succ d ih =>
    intro x hd
    refine Ev.step (f := fun k => (spec_GfMul.f k (a : Int) (x : Int)).bind fun t => if t = 1 then some (x : Int) else spec_GfInv.l0 k (a : Int) ((x + 1 : Nat) : Int)) (fun k => ?_) ?_
    · rw [spec_GfInv.l0, wsucc (by omega)]
    · refine Ev.bind (sGfMul_ev _ _) ?_
      rw [gmI_nat ha (by omega)]
      refine Ev.neg (fun h => ?_) (ih (x + 1) (by omega))
      have h1 : gm a x = gm a (gp a 254) := by rw [gm_inv h0 ha]; omega
      have := gm_cancel h0 ha (by omega) hlt h1
      omega
theorem sGfInv_ev (a : Int) : Ev (fun k => spec_GfInv.f k a) (invI a) := by
  unfold spec_GfInv.f invI
  simp only [l14Byte_eq, Option.bind_some]
  by_cases ha : 0 ≤ a ∧ a ≤ 255
  · refine Ev.pos (by simp [ha]) ?_
    obtain ⟨a, rfl⟩ : ∃ n : Nat, a = n := ⟨a.toNat, by omega⟩
    by_cases h : a = 0
    · rw [if_neg (by omega)]
      refine Ev.fin (fun k => ?_)
      rw [spec_GfInv.j0, h]; rfl
    · rw [if_pos (by omega), Int.toNat_natCast]
      have := gp_ne h (by omega)
      refine Ev.step (fun k => ?_) (sGfInv_l0 a h (by omega) (gp a 254 - 1) 1 (by omega))
      rw [spec_GfInv.j0, if_neg (by simpa using h)]; rfl
  · rw [if_neg (by omega)]
    refine Ev.neg (by simpa using ha) (Ev.fin (fun k => ?_))
    rw [spec_GfInv.j0]; rfl
theorem rd3_mat {R N : Nat} {M : Nat → Nat → F} {i : Nat} (h : i < R) : rd_L3 (mat R N M) (i : Int) = vec N (fun j => (M i j).v) := by
  unfold rd_L3; rw [Int.toNat_natCast]; exact mat_getD h
theorem sv_p1 (n c : Nat) (hn : n ≤ 100) (hc : c < n) (M : Nat → Nat → F) : ∀ d p, p + d = n → Ev (fun k => spec_l14Solve.p1 k (mat n (n + 1) M) (n : Int) (c : Int) (p : Int)) ((fnd M c d p : Nat) : Int) := by
  intro d
  induction d with
  | zero =>
    intro p hd
    exact Ev.fin (fun k => by rw [spec_l14Solve.p1, if_neg (by omega)]; rfl)
  | succ d ih =>
    intro p hd
    have hp : p < n := by omega
    have h1 : (p : Int) < (n : Int) := by omega
    have h2 : 0 ≤ (p : Int) ∧ (p : Int) < (((mat n (n + 1) M).length : Nat) : Int) ∧ 0 ≤ (c : Int) ∧ (c : Int) < (((rd_L3 (mat n (n + 1) M) (p : Int)).length : Nat) : Int) := by
      rw [mat_len, rd3_mat hp, vec_len]; omega
    unfold fnd
    by_cases e : M p c = 0
    · rw [if_pos e]
      refine Ev.step (fun k => ?_) (ih (p + 1) (by omega))
      rw [spec_l14Solve.p1, if_pos h1, if_pos h2, rd3_mat hp, rd_vec _ (by omega), if_pos ((v_eq0 _).2 e), wsucc (by omega)]
    · rw [if_neg e]
      refine Ev.fin (fun k => ?_)
      rw [spec_l14Solve.p1, if_pos h1, if_pos h2, rd3_mat hp, rd_vec _ (by omega), if_neg (fun h => e ((v_eq0 _).1 h))]
theorem sv_p2 (n : Nat) (hn : n ≤ 100) (x : Nat → F) (b : F) : ∀ d j, j + d = n + 1 → Ev (fun k => spec_l14Solve.p2 k (vec (n + 1) fun t => (x t).v) (n : Int) ((b.v : Nat) : Int) (vec j fun t => (x t * b).v) (j : Int)) (vec (n + 1) fun t => (x t * b).v) := by
  intro d
  induction d with
  | zero =>
    intro j hd
    obtain rfl : j = n + 1 := by omega
    exact Ev.fin (fun k => by rw [spec_l14Solve.p2, if_neg (by omega)])
  | succ d ih =>
    intro j hd
    refine Ev.step (fun k => by rw [spec_l14Solve.p2, if_pos (by omega), if_pos (by rw [vec_len]; omega), rd_vec _ (by omega)]) (Ev.bind (sGfMul_ev _ _) ?_)
    refine Ev.pos (by rw [vec_len]; omega) ?_
    rw [mulF, vec_append j (fun t => x t * b), wsucc (by omega)]
    exact ih (j + 1) (by omega)
theorem sv_p4 (n : Nat) (hn : n ≤ 100) (r y : Nat → F) (f : F) : ∀ d j, j + d = n + 1 → Ev (fun k => spec_l14Solve.p4 k (vec (n + 1) fun t => (r t).v) (n : Int) ((f.v : Nat) : Int) (vec (n + 1) fun t => (y t).v) (vec j fun t => (r t + f * y t).v) (j : Int)) (vec (n + 1) fun t => (r t + f * y t).v) := by
  intro d
  induction d with
  | zero =>
    intro j hd
    obtain rfl : j = n + 1 := by omega
    exact Ev.fin (fun k => by rw [spec_l14Solve.p4, if_neg (by omega)])
  | succ d ih =>
    intro j hd
    refine Ev.step (fun k => by rw [spec_l14Solve.p4, if_pos (by omega), if_pos (by rw [vec_len, vec_len]; omega), rd_vec _ (by omega), rd_vec _ (by omega)]) (Ev.bind (sGfMul_ev _ _) ?_)
    refine Ev.pos (by rw [vec_len]; omega) ?_
    rw [mulF, xorF, vec_append j (fun t => r t + f * y t), wsucc (by omega)]
    exact ih (j + 1) (by omega)
theorem sv_p3 (n c : Nat) (hn : n ≤ 100) (hc : c < n) (A : Nat → Nat → F) (y : Nat → F) : ∀ d i, i + d = n → Ev (fun k => spec_l14Solve.p3 k (mat n (n + 1) (cmb A c y i)) (n : Int) (c : Int) (vec (n + 1) fun t => (y t).v) (i : Int)) (mat n (n + 1) (cmb A c y n)) := by
  intro d
  induction d with
  | zero =>
    intro i hd
    obtain rfl : i = n := by omega
    exact Ev.fin (fun k => by rw [spec_l14Solve.p3, if_neg (by omega)])
  | succ d ih =>
    intro i hd
    have hi : i < n := by omega
    by_cases e : i = c
    · subst e
      have h := ih (i + 1) (by omega)
      rw [mat_congr (fun i' j _ _ => cmb_same A i y i' j)] at h
      exact Ev.step (fun k => by rw [spec_l14Solve.p3, if_pos (by omega), if_pos rfl, wsucc (by omega)]) h
    · have er : rd_L3 (mat n (n + 1) (cmb A c y i)) (i : Int) = vec (n + 1) fun t => (A i t).v := by
        rw [rd3_mat hi]
        exact vec_congr fun t _ => by rw [cmb_row A c y (Nat.le_refl i)]
      have ef : rd (vec (n + 1) fun t => (A i t).v) (c : Int) = (((A i c).v : Nat) : Int) := rd_vec _ (by omega)
      have h := ih (i + 1) (by omega)
      rw [← mat_congr (fun i' j _ _ => cmb_next A y e i' j), ← mat_set (M := cmb A c y i) hi (fun j => A i j + A i c * y j)] at h
      have h4 : Ev (fun k => spec_l14Solve.p4 k (vec (n + 1) fun t => (A i t).v) (n : Int) (((A i c).v : Nat) : Int) (vec (n + 1) fun t => (y t).v) [] 0) (vec (n + 1) fun t => (A i t + A i c * y t).v) := sv_p4 n hn (A i) y (A i c) (n + 1) 0 (by omega)
      refine Ev.step (fun k => by rw [spec_l14Solve.p3, if_pos (by omega), if_neg (by omega), if_pos (by rw [mat_len, er, vec_len]; omega), er, ef, wsucc (by omega), Int.toNat_natCast]) (Ev.bind h4 h)
theorem sv_p0 (n : Nat) (hn : n ≤ 100) : ∀ d c (M : Nat → Nat → F), c + d = n → unit n c M →
    (∃ Mx z c', Ev (fun k => spec_l14Solve.p0 k (mat n (n + 1) M) (n : Int) (c : Int)) (Mx, false) ∧ ker n n M z ∧ z n = 0 ∧ c' < n ∧ z c' = 1) ∨
    (∃ M', Ev (fun k => spec_l14Solve.p0 k (mat n (n + 1) M) (n : Int) (c : Int)) (mat n (n + 1) M', true) ∧ unit n n M' ∧ ∀ z, ker n n M' z ↔ ker n n M z) := by
  intro d
  induction d with
  | zero =>
    intro c M hd hu
    obtain rfl : c = n := by omega
    exact .inr ⟨M, Ev.fin (fun k => by rw [spec_l14Solve.p0, if_neg (by omega)]), hu, fun z => Iff.rfl⟩
  | succ d ih =>
    intro c M hd hu
    have hc : c < n := by omega
    have h1 := sv_p1 n c hn hc M (d + 1) c hd
    have hle := fnd_le M c (d + 1) c
    by_cases e : fnd M c (d + 1) c = n
    · left
      rw [e] at h1
      obtain ⟨z, z1, z2, z3⟩ := gj_fail (R := n) (n := n) hu hc (fun k a b => fnd_end M c (d + 1) c (by omega) k a (by omega))
      exact ⟨mat n (n + 1) M, z, c, Ev.step (fun k => by rw [spec_l14Solve.p0, if_pos (by omega)]) (Ev.bind h1 (Ev.pos rfl (Ev.now _))), z1, z2, hc, z3⟩
    · have hne := fnd_ne M c (d + 1) c (by omega)
      generalize fnd M c (d + 1) c = p at *
      have hp : p < n := by omega
      have er : rd_L3 (mat n (n + 1) M) (p : Int) = vec (n + 1) fun t => (M p t).v := rd3_mat hp
      have ec : rd_L3 (mat n (n + 1) M) (c : Int) = vec (n + 1) fun t => (M c t).v := rd3_mat hc
      have ex : rd (vec (n + 1) fun t => (M p t).v) (c : Int) = (((M p c).v : Nat) : Int) := rd_vec _ (by omega)
      have h2 : Ev (fun k => spec_l14Solve.p2 k (vec (n + 1) fun t => (M p t).v) (n : Int) (((F.inv (M p c)).v : Nat) : Int) [] 0) (vec (n + 1) fun t => (M p t * F.inv (M p c)).v) := sv_p2 n hn (M p) (F.inv (M p c)) (n + 1) 0 (by omega)
      have h3 := sv_p3 n c hn hc (swp M c p (fun j => M p j * F.inv (M p c))) (fun j => M p j * F.inv (M p c)) n 0 (by omega)
      rw [mat_congr (fun i j _ _ => cmb_zero _ _ _ i j), mat_congr (M := cmb _ _ _ n) (fun i j hi _ => cmb_gj M n c p i j hi)] at h3
      have es : ((mat n (n + 1) M).set p (vec (n + 1) fun t => (M c t).v)).set c (vec (n + 1) fun t => (M p t * F.inv (M p c)).v) = mat n (n + 1) (swp M c p (fun j => M p j * F.inv (M p c))) := by
        rw [mat_set hp (M c), mat_set hc (fun t => M p t * F.inv (M p c))]; rfl
      have hk := fun z => gj_ker (R := n) (n := n) hc hp hne z
      have hs : ∀ r, Ev (fun k => spec_l14Solve.p0 k (mat n (n + 1) (gj c p M)) (n : Int) ((c + 1 : Nat) : Int)) r → Ev (fun k => spec_l14Solve.p0 k (mat n (n + 1) M) (n : Int) (c : Int)) r := by
        intro r hr
        refine Ev.step (fun k => by rw [spec_l14Solve.p0, if_pos (by omega)]) (Ev.bind h1 ?_)
        refine Ev.neg (by omega) (Ev.pos (by rw [mat_len, er, vec_len]; omega) ?_)
        rw [er, ec, ex]
        refine Ev.bind (sGfInv_ev _) ?_
        rw [invF hne]
        refine Ev.bind h2 ?_
        rw [Int.toNat_natCast, Int.toNat_natCast, es]
        refine Ev.bind h3 ?_
        rw [wsucc (by omega)]
        exact hr
      rcases ih (c + 1) (gj c p M) (by omega) (gj_unit hu hc hp (by omega) hne) with ⟨Mx, z, c', a1, a2, a3, a4, a5⟩ | ⟨M', a1, a2, a3⟩
      · exact .inl ⟨Mx, z, c', hs _ a1, (hk z).1 a2, a3, a4, a5⟩
      · exact .inr ⟨M', hs _ a1, a2, fun z => (a3 z).trans (hk z)⟩
theorem sv_p5 (n : Nat) (hn : n ≤ 100) (M : Nat → Nat → F) : ∀ d i, i + d = n → Ev (fun k => spec_l14Solve.p5 k (mat n (n + 1) M) (n : Int) (vec i fun t => (M t n).v) (i : Int)) (vec n fun t => (M t n).v) := by
  intro d
  induction d with
  | zero =>
    intro i hd
    obtain rfl : i = n := by omega
    exact Ev.fin (fun k => by rw [spec_l14Solve.p5, if_neg (by omega)])
  | succ d ih =>
    intro i hd
    have hi : i < n := by omega
    have er : rd_L3 (mat n (n + 1) M) (i : Int) = vec (n + 1) fun t => (M i t).v := rd3_mat hi
    have ex : rd (vec (n + 1) fun t => (M i t).v) (n : Int) = (((M i n).v : Nat) : Int) := rd_vec _ (by omega)
    refine Ev.step (fun k => ?_) (ih (i + 1) (by omega))
    rw [spec_l14Solve.p5, if_pos (by omega), if_pos (by rw [mat_len, er, vec_len]; omega), if_pos (by rw [vec_len]; omega), er, ex, vec_append i (fun t => M t n), wsucc (by omega)]
/-- What the elimination of n equations in n unknowns tells: that they hang together, or the one solution. -/
theorem solve_ev (n : Nat) (hn : n ≤ 100) (M : Nat → Nat → F) :
    (∃ z c', Ev (fun k => spec_l14Solve.f k (mat n (n + 1) M)) ([], false) ∧ ker n n M z ∧ z n = 0 ∧ c' < n ∧ z c' = 1) ∨
    (∃ s : Nat → F, Ev (fun k => spec_l14Solve.f k (mat n (n + 1) M)) (vec n fun i => (s i).v, true) ∧ ∀ z, z n = 1 → (ker n n M z ↔ ∀ i, i < n → z i = s i)) := by
  unfold spec_l14Solve.f
  rw [mat_len]
  rcases sv_p0 n hn n 0 M (by omega) (fun i j _ h => by omega) with ⟨Mx, z, c', a1, a2, a3, a4, a5⟩ | ⟨M', a1, a2, a3⟩
  · exact .inl ⟨z, c', Ev.bind a1 (Ev.neg (show ¬ (false = true) by decide) (Ev.now _)), a2, a3, a4, a5⟩
  · refine .inr ⟨fun i => M' i n, Ev.bind a1 (Ev.pos rfl (Ev.bind (sv_p5 n hn M' n 0 (by omega)) (Ev.now _))), fun z hz => ?_⟩
    rw [← a3 z, gj_done a2 (Nat.le_refl n) z hz]
    exact ⟨fun h => h.1, fun h => ⟨h, fun i h1 h2 => by omega⟩⟩
theorem l14Pow_l0 (n : Nat) : ∀ (d i : Nat), i + d = n % 255 → Ev (fun k => spec_l14Pow.l0 k (n : Int) ((xtN i 1 : Nat) : Int) (i : Int)) ((pwN n : Nat) : Int) := by
  have e : Int.tmod (n : Int) 255 = ((n % 255 : Nat) : Int) := rfl
  intro d
  induction d with
  | zero =>
    intro i hd
    unfold pwN
    obtain rfl : i = n % 255 := by omega
    exact Ev.fin (fun k => by rw [spec_l14Pow.l0, e, if_neg (by omega)])
  | succ d ih =>
    intro i hd
    refine Ev.step (fun k => by rw [spec_l14Pow.l0, e, if_pos (by omega)]) (Ev.bind (sGfMul_ev _ _) ?_)
    rw [gm2 (xtN_lt i (by omega)), ← xtN_succ, wsucc (by omega)]
    exact ih (i + 1) (by omega)
theorem l14Pow_ev (n : Nat) : Ev (fun k => spec_l14Pow.f k (n : Int)) ((pwN n : Nat) : Int) := l14Pow_l0 n (n % 255) 0 (by omega)
def signsL (l : List Int) : Nat → Nat → List Int
  | 0, _ => []
  | d + 1, j => ((valP l j : Nat) : Int) :: signsL l d (j + 1)
theorem signsL_len (l : List Int) : ∀ d j, (signsL l d j).length = d
  | 0, _ => rfl
  | d + 1, j => by simp [signsL, signsL_len l d]
theorem l14Signs_l1 (l : List Int) (m : Int) (acc : List Int) (ha : acc.length ≤ 1000) (cl : Bool) (j w : Nat) (hj : j ≤ 100) (hw : w < 256) (hl : l.length ≤ 1048576) (hb : Bytes l) (R : List Int × Bool) : ∀ (d i s : Nat), i + d = l.length → s < 256 →
    Ev (fun k => spec_l14Signs.l0 k l m (acc ++ [((valG w s (l.drop i) : Nat) : Int)]) (cl && valG w s (l.drop i) == 0) ((j + 1 : Nat) : Int)) R →
    Ev (fun k => spec_l14Signs.l1 k l m acc cl (j : Int) (w : Int) (s : Int) (i : Int)) R := by
  intro d
  induction d with
  | zero =>
    intro i s hd hs h
    rw [List.drop_of_length_le (by omega)] at h
    refine Ev.step (fun k => ?_) h
    rw [spec_l14Signs.l1, if_neg (by omega), wsucc (by omega)]
    have e : ((s : Int) == 0) = (s == 0) := by rw [Bool.eq_iff_iff]; simp
    cases cl
    · rw [if_neg (by decide), if_pos (by omega)]; rfl
    · rw [if_pos rfl, if_pos (by omega), e]; rfl
  | succ d ih =>
    intro i s hd hs h
    have hx := wfb (hb _ (rd_mem (xs := l) (i := i) (by omega)))
    obtain ⟨x, ex⟩ : ∃ x : Nat, rd l (i : Int) = (x : Int) := ⟨(rd l (i : Int)).toNat, by omega⟩
    have hg := gm_lt w hs
    rw [drop_rd (i := i) (by omega), ex] at h
    refine Ev.step (fun k => by rw [spec_l14Signs.l1, if_pos (by omega)]) (Ev.bind (sGfMul_ev _ _) (Ev.pos (show 0 ≤ (i : Int) by omega) ?_))
    rw [gmI_nat hs hw, ex, w64 (n := (x : Int)) (by omega) (by omega), xor64 _ _ (by omega) (by omega), wsucc (by omega)]
    exact ih (i + 1) (gm s w ^^^ x) (by omega) (xor_lt hg (by omega)) h
theorem l14Signs_l0 (l : List Int) (m : Nat) (hm : m ≤ 8) (hl : l.length ≤ 1048576) (hb : Bytes l) : ∀ (d j : Nat) (acc : List Int) (cl : Bool), j + d = 2 * m → acc.length = j →
    Ev (fun k => spec_l14Signs.l0 k l (m : Int) acc cl (j : Int)) (acc ++ signsL l d j, cl && cleanG l d j) := by
  have e : wrap64 (2 * (m : Int)) = ((2 * m : Nat) : Int) := by rw [w64 (by omega) (by omega)]; omega
  intro d
  induction d with
  | zero =>
    intro j acc cl hd ha
    refine Ev.fin (fun k => ?_)
    rw [spec_l14Signs.l0, e, if_neg (by omega)]
    simp [signsL, cleanG]
  | succ d ih =>
    intro j acc cl hd ha
    refine Ev.step (fun k => by rw [spec_l14Signs.l0, e, if_pos (by omega)]) (Ev.bind (l14Pow_ev j) ?_)
    have h := ih (j + 1) (acc ++ [((valP l j : Nat) : Int)]) (cl && valP l j == 0) (by omega) (by simp; omega)
    rw [List.append_assoc, Bool.and_assoc] at h
    exact l14Signs_l1 l (m : Int) acc (by omega) cl j (pwN j) (by omega) (pwN_lt j) hl hb _ l.length 0 0 (by omega) (by omega) h
theorem l14Signs_ev (l : List Int) (m : Nat) (hm : m ≤ 8) (hl : l.length ≤ 1048576) (hb : Bytes l) : Ev (fun k => spec_l14Signs.f k l (m : Int)) (signsL l (2 * m) 0, cleanG l (2 * m) 0) :=
  l14Signs_l0 l m hm hl hb (2 * m) 0 [] true (by omega) rfl
theorem l14Word_eq (l : List Int) (m : Int) (hm : (Lit.int .i64 m).wf = true) (hl : l.length ≤ 1048576) : spec_l14Word.f l m = some (wordB l m) := by
  unfold spec_l14Word.f spec_l14Mend.f wordB
  have hb := wfi hm
  rw [l1In_eq, Option.bind_some, Option.bind_some]
  by_cases h1 : 1 ≤ m ∧ m ≤ 8
  · rw [decide_eq_true h1, if_pos rfl, l1In_eq, Option.bind_some, w64 (n := 2 * m) (by omega) (by omega), w64 (by omega) (by omega)]
    congr 1; rw [Bool.eq_iff_iff]; simp; omega
  · rw [decide_eq_false h1, if_neg (by decide)]; congr 1; symm; rw [decide_eq_false_iff_not]; omega
theorem rd_signs (l : List Int) (hb : Bytes l) : ∀ d j i, i < d → rd (signsL l d j) (i : Int) = (((syn l.length (wF l) (j + i)).v : Nat) : Int)
  | 0, _, i, h => absurd h (Nat.not_lt_zero i)
  | d + 1, j, 0, _ => by
    rw [← valP_syn l hb]; rfl
  | d + 1, j, i + 1, h => by
    have := rd_signs l hb d (j + 1) i (by omega)
    rw [show j + (i + 1) = j + 1 + i by omega, ← this]; rfl
theorem mat_snoc (R N : Nat) (M : Nat → Nat → F) : mat R N M ++ [vec N fun j => (M R j).v] = mat (R + 1) N M := by
  unfold mat
  rw [List.range_succ, List.map_append]; rfl
theorem pt_pow {N q i : Nat} (hN : N ≤ 255) (hq : q < N) (hi : i ≤ 16) : wrap64 ((i : Int) * wrap64 (wrap64 ((N : Int) - 1) - (q : Int))) = (((N - 1 - q) * i : Nat) : Int) := by
  rw [Int.mul_comm]; exact fl_pow hN hq hi
theorem pt_l1 (l : List Int) (hb : Bytes l) (hN : l.length ≤ 255) (m : Int) {n R : Nat} (hn : n ≤ R) (hR : R ≤ 16) (g : Nat → Nat) (hg : ∀ t, t < n → g t < l.length) (out : List Int) {i : Nat} (hi : i < n) {r : List Int × Bool}
    (next : Ev (fun k => spec_l14Put.l0 k l (signsL l R 0) (vec n g) m out (mat (i + 1) (n + 1) (sysM l.length n g (syn l.length (wF l)))) ((i + 1 : Nat) : Int)) r) :
    ∀ d j, j + d = n → Ev (fun k => spec_l14Put.l1 k l (signsL l R 0) (vec n g) m out (mat i (n + 1) (sysM l.length n g (syn l.length (wF l)))) (i : Int) (vec j fun t => (sysM l.length n g (syn l.length (wF l)) i t).v) (j : Int)) r := by
  intro d
  induction d with
  | zero =>
    intro j hd
    obtain rfl : j = n := by omega
    have e : rd (signsL l R 0) (i : Int) = (((sysM l.length j g (syn l.length (wF l)) i j).v : Nat) : Int) := by
      rw [rd_signs l hb R 0 i (by omega), Nat.zero_add]; unfold sysM; rw [if_neg (by omega)]
    refine Ev.step (fun k => ?_) next
    rw [spec_l14Put.l1, if_neg (by rw [vec_len]; omega), if_pos (by omega), if_pos (by rw [signsL_len]; omega), if_pos (by rw [vec_len]; omega), if_pos (by rw [mat_len]; omega), e, vec_append j (fun t => sysM l.length j g (syn l.length (wF l)) i t), mat_snoc, wsucc (by omega)]
  | succ d ih =>
    intro j hd
    have hj : j < n := by omega
    have hq := hg j hj
    refine Ev.step (fun k => by rw [spec_l14Put.l1, if_pos (by rw [vec_len]; omega), if_pos (by omega), rd_vec _ hj, pt_pow hN hq (by omega)]) (Ev.bind (l14Pow_ev _) ?_)
    refine Ev.pos (by rw [vec_len]; omega) ?_
    have e : pwN ((l.length - 1 - g j) * i) = (sysM l.length n g (syn l.length (wF l)) i j).v := by
      rw [pwN_v]; unfold sysM xp; rw [if_pos hj, pw_mul]
    rw [e, vec_append j (fun t => sysM l.length n g (syn l.length (wF l)) i t), wsucc (by omega)]
    exact ih (j + 1) (by omega)
theorem pt_l0 (l : List Int) (hb : Bytes l) (hN : l.length ≤ 255) (m : Int) {n R : Nat} (hn : n ≤ R) (hR : R ≤ 16) (g : Nat → Nat) (hg : ∀ t, t < n → g t < l.length) (out : List Int) {r : List Int × Bool}
    (fin : Ev (fun k => spec_l14Put.l0 k l (signsL l R 0) (vec n g) m out (mat n (n + 1) (sysM l.length n g (syn l.length (wF l)))) (n : Int)) r) :
    ∀ d i, i + d = n → Ev (fun k => spec_l14Put.l0 k l (signsL l R 0) (vec n g) m out (mat i (n + 1) (sysM l.length n g (syn l.length (wF l)))) (i : Int)) r := by
  intro d
  induction d with
  | zero =>
    intro i hd
    obtain rfl : i = n := by omega
    exact fin
  | succ d ih =>
    intro i hd
    exact Ev.step (fun k => by rw [spec_l14Put.l0, if_pos (by rw [vec_len]; omega)]; rfl) (pt_l1 l hb hN m hn hR g hg out (by omega) (ih (i + 1) (by omega)) n 0 (by omega))
theorem pt_l2 (l : List Int) (hN : l.length ≤ 255) (m : Nat) (hm : m ≤ 8) {n : Nat} (hn : n ≤ 2 * m) (g : Nat → Nat) (hg : ∀ t, t < n → g t < l.length) (s : Nat → F) :
    ∀ d i, i + d = n → Ev (fun k => spec_l14Put.l2 k (vec n g) (m : Int) (vec l.length fun p => (addAt (wF l) g s i p).v) (vec n fun i => (s i).v) (i : Int)) (vec l.length fun p => (addAt (wF l) g s n p).v, cleanG (vec l.length fun p => (addAt (wF l) g s n p).v) (2 * m) 0) := by
  intro d
  induction d with
  | zero =>
    intro i hd
    obtain rfl : i = n := by omega
    exact Ev.step (fun k => by rw [spec_l14Put.l2, if_neg (by rw [vec_len]; omega)]) (Ev.bind (l14Signs_ev _ m hm (by rw [vec_len]; omega) (vec_bytes _ _)) (Ev.now _))
  | succ d ih =>
    intro i hd
    have hi : i < n := by omega
    have hq := hg i hi
    refine Ev.step (fun k => ?_) (ih (i + 1) (by omega))
    rw [spec_l14Put.l2, if_pos (by rw [vec_len]; omega), if_pos (by omega), rd_vec _ hi, if_pos (by omega), if_pos (by rw [vec_len]; omega), if_pos (by rw [vec_len]; omega), rd_vec _ hi, rd_vec _ hq, xor8 (addAt (wF l) g s i (g i)) (s i) rfl, Int.toNat_natCast, set_vec _ _ hq, wsucc (by omega)]
    congr 1
    exact vec_congr fun p _ => by
      unfold upd
      show _ = (if p = g i then addAt (wF l) g s i p + s i else addAt (wF l) g s i p : F).v
      by_cases h : p = g i
      · rw [if_pos h, if_pos h, h]
      · rw [if_neg h, if_neg h]
/-- What is put in at places tells: the word with the one solution, or that there is none. -/
theorem put_fin (l : List Int) (m : Nat) {n : Nat} (hn : n ≤ 2 * m) (g : Nat → Nat) (hg : ∀ t, t < n → g t < l.length) (s : Nat → F) (hs : ∀ z, z n = 1 → (ker n n (sysM l.length n g (syn l.length (wF l))) z ↔ ∀ i, i < n → z i = s i)) :
    (cleanG (vec l.length fun p => (addAt (wF l) g s n p).v) (2 * m) 0 = false ∧ ∀ z, z n = 1 → ¬ ker (2 * m) n (sysM l.length n g (syn l.length (wF l))) z) ∨
    (cleanG (vec l.length fun p => (addAt (wF l) g s n p).v) (2 * m) 0 = true ∧ ∀ z, z n = 1 → (ker (2 * m) n (sysM l.length n g (syn l.length (wF l))) z ↔ ∀ i, i < n → z i = s i)) := by
  have hc := clean_addAt l m g hg s
  have hz : ∀ z, z n = 1 → ker (2 * m) n (sysM l.length n g (syn l.length (wF l))) z → ∀ i, i < n → z i = s i := fun z h1 hk => (hs z h1).1 fun i hi => hk i (by omega)
  cases h : cleanG (vec l.length fun p => (addAt (wF l) g s n p).v) (2 * m) 0 with
  | false =>
    refine .inl ⟨rfl, fun z h1 hk => ?_⟩
    have := hc.2 ((ker_z h1 (hz z h1 hk)).1 hk)
    rw [h] at this
    exact absurd this (by decide)
  | true => exact .inr ⟨rfl, fun z h1 => ⟨hz z h1, fun e => (ker_z h1 e).2 (hc.1 h)⟩⟩
theorem put_ev (l : List Int) (hb : Bytes l) (m : Nat) (hm : 1 ≤ m ∧ m ≤ 8) (hN : l.length ≤ 255) {n : Nat} (hn : n ≤ 2 * m) (g : Nat → Nat) (hg : ∀ t, t < n → g t < l.length) (hd : ∀ i j, i < j → j < n → g i < g j) :
    ∃ (o : List Int) (ok : Bool), Ev (fun k => spec_l14Put.f k l (signsL l (2 * m) 0) (vec n g) (m : Int)) (o, ok) ∧
      ((ok = false ∧ ∀ z, z n = 1 → ¬ ker (2 * m) n (sysM l.length n g (syn l.length (wF l))) z) ∨
       ∃ s : Nat → F, ok = true ∧ o = (vec l.length fun p => (addAt (wF l) g s n p).v) ∧ ∀ z, z n = 1 → (ker (2 * m) n (sysM l.length n g (syn l.length (wF l))) z ↔ ∀ i, i < n → z i = s i)) := by
  have fin : ∀ s : Nat → F, (∀ z, z n = 1 → (ker n n (sysM l.length n g (syn l.length (wF l))) z ↔ ∀ i, i < n → z i = s i)) → Ev (fun k => spec_l14Put.f k l (signsL l (2 * m) 0) (vec n g) (m : Int)) (vec l.length fun p => (addAt (wF l) g s n p).v, cleanG (vec l.length fun p => (addAt (wF l) g s n p).v) (2 * m) 0) → ∃ (o : List Int) (ok : Bool), Ev (fun k => spec_l14Put.f k l (signsL l (2 * m) 0) (vec n g) (m : Int)) (o, ok) ∧
      ((ok = false ∧ ∀ z, z n = 1 → ¬ ker (2 * m) n (sysM l.length n g (syn l.length (wF l))) z) ∨
       ∃ s : Nat → F, ok = true ∧ o = (vec l.length fun p => (addAt (wF l) g s n p).v) ∧ ∀ z, z n = 1 → (ker (2 * m) n (sysM l.length n g (syn l.length (wF l))) z ↔ ∀ i, i < n → z i = s i)) := by
    intro s hs he
    rcases put_fin l m hn g hg s hs with ⟨e, h⟩ | ⟨e, h⟩
    · exact ⟨_, _, he, .inl ⟨e, h⟩⟩
    · exact ⟨_, _, he, .inr ⟨s, e, rfl, h⟩⟩
  have start : ∀ r, Ev (fun k => if ((vec n g).length : Int) > 0 then (spec_l14Put.l0 k l (signsL l (2 * m) 0) (vec n g) (m : Int) l ([] : List (List Int)) 0) else ((spec_l14Signs.f k l (m : Int)).bind fun bt247 => (some (l, bt247.2)))) r → Ev (fun k => spec_l14Put.f k l (signsL l (2 * m) 0) (vec n g) (m : Int)) r := by
    intro r h
    unfold spec_l14Put.f
    refine Ev.bind (Ev.now _) (Ev.pos (by simp; omega) (Ev.bind (Ev.now _) ?_))
    rw [List.nil_append]; exact h
  have e0 : ∀ s : Nat → F, (vec l.length fun p => (addAt (wF l) g s 0 p).v) = l := fun s => (wF_vec hb).symm
  by_cases h0 : n = 0
  · subst h0
    refine fin (fun _ => 0) (fun z _ => ⟨fun _ i hi => absurd hi (Nat.not_lt_zero i), fun _ i hi => absurd hi (Nat.not_lt_zero i)⟩) (start _ (Ev.neg (by rw [vec_len]; omega) ?_))
    rw [e0]
    exact Ev.bind (l14Signs_ev l m hm.2 (by omega) hb) (Ev.now _)
  · rcases solve_ev n (by omega) (sysM l.length n g (syn l.length (wF l))) with ⟨z, c', _, a2, a3, a4, a5⟩ | ⟨s, a1, a2⟩
    · exfalso
      have := sys_free hN hg hd (Nat.le_refl n) a2 a3 c' a4
      rw [a5] at this
      exact absurd this F.one_ne
    · refine fin s a2 (start _ (Ev.pos (by rw [vec_len]; omega) ?_))
      have h2 := pt_l2 l hN m hm.2 hn g hg s n 0 (by omega)
      rw [e0] at h2
      refine pt_l0 l hb hN (m : Int) hn (by omega) g hg l ?_ n 0 (by omega)
      refine Ev.step (fun k => by rw [spec_l14Put.l0, if_neg (by rw [vec_len]; omega)]) (Ev.bind a1 (Ev.pos rfl h2))
theorem ps_l1 (l : List Int) (hb : Bytes l) {R v i : Nat} (hR : R ≤ 16) (hv : 2 * v ≤ R) (hi : i < v) (N : Int) {r : List Int × Bool}
    (next : Ev (fun k => spec_l14Places.l0 k (signsL l R 0) (v : Int) N (mat (i + 1) (v + 1) (hkl (syn l.length (wF l)))) ((i + 1 : Nat) : Int)) r) :
    ∀ d j, j + d = v → Ev (fun k => spec_l14Places.l1 k (signsL l R 0) (v : Int) N (mat i (v + 1) (hkl (syn l.length (wF l)))) (i : Int) (vec j fun t => (hkl (syn l.length (wF l)) i t).v) (j : Int)) r := by
  have e1 : ∀ j : Nat, j ≤ v → wrap64 ((i : Int) + (j : Int)) = ((i + j : Nat) : Int) := fun j hj => by rw [w64 (by omega) (by omega)]; omega
  have e2 : ∀ j : Nat, j ≤ v → rd (signsL l R 0) ((i + j : Nat) : Int) = (((hkl (syn l.length (wF l)) i j).v : Nat) : Int) := fun j hj => by
    rw [rd_signs l hb R 0 (i + j) (by omega), Nat.zero_add]; rfl
  intro d
  induction d with
  | zero =>
    intro j hd
    obtain rfl : j = v := by omega
    refine Ev.step (fun k => ?_) next
    rw [spec_l14Places.l1, if_neg (by omega), e1 j (Nat.le_refl j), if_pos (by omega), if_pos (by rw [signsL_len]; omega), if_pos (by rw [vec_len]; omega), if_pos (by rw [mat_len]; omega), e2 j (Nat.le_refl j), vec_append j (hkl (syn l.length (wF l)) i), mat_snoc, wsucc (by omega)]
  | succ d ih =>
    intro j hd
    refine Ev.step (fun k => ?_) (ih (j + 1) (by omega))
    rw [spec_l14Places.l1, if_pos (by omega), e1 j (by omega), if_pos (by omega), if_pos (by rw [signsL_len]; omega), if_pos (by rw [vec_len]; omega), e2 j (by omega), vec_append j (hkl (syn l.length (wF l)) i), wsucc (by omega)]
theorem ps_l0 (l : List Int) (hb : Bytes l) {R v : Nat} (hR : R ≤ 16) (hv : 2 * v ≤ R) (N : Int) {r : List Int × Bool}
    (fin : Ev (fun k => spec_l14Places.l0 k (signsL l R 0) (v : Int) N (mat v (v + 1) (hkl (syn l.length (wF l)))) (v : Int)) r) :
    ∀ d i, i + d = v → Ev (fun k => spec_l14Places.l0 k (signsL l R 0) (v : Int) N (mat i (v + 1) (hkl (syn l.length (wF l)))) (i : Int)) r := by
  intro d
  induction d with
  | zero =>
    intro i hd
    obtain rfl : i = v := by omega
    exact fin
  | succ d ih =>
    intro i hd
    exact Ev.step (fun k => by rw [spec_l14Places.l0, if_pos (by omega)]; rfl) (ps_l1 l hb hR hv (by omega) N (ih (i + 1) (by omega)) v 0 (by omega))
def sone (s : Nat → F) (v i : Nat) : F := if i < v then s i else 1
def qs (s : Nat → F) (v N p : Nat) : Bool := decide (ev v (sone s v) (xp N p) = 0)
theorem ps_l3 (s : Nat → F) (v : Nat) (hv : v ≤ 100) (acc : List Int) (ha : acc.length ≤ 1000) (N p : Int) (z : F) {r : List Int × Bool}
    (next : Ev (fun k => spec_l14Places.l2 k (v : Int) N (vec v fun i => (s i).v) (if ev v (sone s v) z = 0 then acc ++ [p] else acc) (wrap64 (p + 1))) r) :
    ∀ i, i ≤ v → Ev (fun k => spec_l14Places.l3 k (v : Int) N (vec v fun i => (s i).v) acc p ((z.v : Nat) : Int) (((hrn (sone s v) z (v + 1) i).v : Nat) : Int) ((i : Int) - 1)) r := by
  intro i
  induction i with
  | zero =>
    intro _
    rw [hrn_ev]
    refine Ev.step (fun k => ?_) next
    rw [spec_l14Places.l3, if_neg (by omega)]
    by_cases h : ev v (sone s v) z = 0
    · rw [if_pos ((v_eq0 _).2 h), if_pos (by omega), if_pos h]
    · rw [if_neg (fun e => h ((v_eq0 _).1 e)), if_neg h]
  | succ i ih =>
    intro hi
    have e0 : ((i + 1 : Nat) : Int) - 1 = (i : Int) := by omega
    have e1 : wrap64 ((i : Int) - 1) = (i : Int) - 1 := w64 (by omega) (by omega)
    have e2 : s i = sone s v i := (if_pos (by omega)).symm
    rw [e0]
    refine Ev.step (fun k => by rw [spec_l14Places.l3, if_pos (by omega)]) (Ev.bind (sGfMul_ev _ _) ?_)
    refine Ev.pos (by omega) (Ev.pos (by rw [vec_len]; omega) ?_)
    rw [mulF, rd_vec _ (by omega), xorF, e2, hrn_step (sone s v) z (by omega), e1]
    exact ih (by omega)
theorem ps_l2 (s : Nat → F) (v : Nat) (hv : v ≤ 100) (N : Nat) (hN : N ≤ 255) : ∀ d p, p + d = N → Ev (fun k => spec_l14Places.l2 k (v : Int) (N : Int) (vec v fun i => (s i).v) (ints (pl (qs s v N) p)) (p : Int)) (ints (pl (qs s v N) N), (((pl (qs s v N) N).length : Int) == (v : Int))) := by
  intro d
  induction d with
  | zero =>
    intro p hd
    obtain rfl : p = N := by omega
    exact Ev.fin (fun k => by rw [spec_l14Places.l2, if_neg (by omega), ints_len])
  | succ d ih =>
    intro p hd
    have hp : p < N := by omega
    have hl := pl_len_le (qs s v N) p
    have e1 : wrap64 (wrap64 ((N : Int) - 1) - (p : Int)) = ((N - 1 - p : Nat) : Int) := by
      rw [w64 (n := (N : Int) - 1) (by omega) (by omega), w64 (by omega) (by omega)]; omega
    have e4 : wrap64 ((v : Int) - 1) = (v : Int) - 1 := w64 (by omega) (by omega)
    refine Ev.step (fun k => by rw [spec_l14Places.l2, if_pos (by omega), e1]) (Ev.bind (l14Pow_ev _) ?_)
    rw [pwN_v, e4]
    have h := ps_l3 s v hv (ints (pl (qs s v N) p)) (by rw [ints_len]; omega) (N : Int) (p : Int) (xp N p) (r := (ints (pl (qs s v N) N), (((pl (qs s v N) N).length : Int) == (v : Int)))) (by
      rw [wsucc (by omega)]
      have h2 := ih (p + 1) (by omega)
      by_cases hq : ev v (sone s v) (xp N p) = 0
      · rw [if_pos hq, ints_snoc, ← pl_pos (show qs s v N p = true from decide_eq_true hq)]; exact h2
      · rw [if_neg hq, ← pl_neg (show ¬ qs s v N p = true by unfold qs; simpa using hq)]; exact h2) v (Nat.le_refl v)
    have e5 : hrn (sone s v) (xp N p) (v + 1) v = 1 := by
      unfold hrn
      rw [show v + 1 - v = 1 by omega]
      show 0 + sone s v (v + 0) * 1 = 1
      rw [F.zero_add, F.mul_one]; exact if_neg (by omega)
    rw [e5] at h
    exact h
theorem places_ev (l : List Int) (hb : Bytes l) (m : Nat) (hm : 1 ≤ m ∧ m ≤ 8) (hN : l.length ≤ 255) (v : Nat) (hv : 1 ≤ v ∧ v ≤ m) : ∃ (o : List Int) (ok : Bool), Ev (fun k => spec_l14Places.f k (signsL l (2 * m) 0) (v : Int) (l.length : Int)) (o, ok) ∧
    (ok = true → ∃ q, o = ints (pl q l.length) ∧ (pl q l.length).length = v) ∧
    ∀ u, near l.length m (wF l) u → dist l.length (wF l) u = v → ok = true ∧ o = ints (pl (df (wF l) u) l.length) := by
  have start : ∀ r, Ev (fun k => (spec_l14Solve.f k (mat v (v + 1) (hkl (syn l.length (wF l))))).bind fun bt309 => (if bt309.2 = true then (spec_l14Places.l2 k (v : Int) (l.length : Int) bt309.1 (([] : List Int)) 0) else (some ((([] : List Int)), false)))) r → Ev (fun k => spec_l14Places.f k (signsL l (2 * m) 0) (v : Int) (l.length : Int)) r := fun r h => by
    unfold spec_l14Places.f
    exact ps_l0 l hb (by omega : 2 * m ≤ 16) (by omega) (l.length : Int) (Ev.step (fun k => by rw [spec_l14Places.l0, if_neg (by omega)]) h) v 0 (by omega)
  rcases solve_ev v (by omega) (hkl (syn l.length (wF l))) with ⟨z, c', a1, a2, a3, a4, a5⟩ | ⟨s, a1, a2⟩
  · refine ⟨[], false, start _ (Ev.bind a1 (Ev.neg (fun e => Bool.false_ne_true e) (Ev.now _))), fun h => absurd h (by decide), fun u hu he => ?_⟩
    exfalso
    have h := hkl_free (v := v) (X := fun t => xp l.length (gs l.length (wF l) u t)) (Y := ys l.length (wF l) u) (fun i j h1 h2 => xs_ne hN i j h1 (by omega)) (fun i hi => ys_ne (by omega)) (fun j hj => by rw [syn_near hu (by omega), he]) a2 a3 c' a4
    rw [a5] at h
    exact absurd h F.one_ne
  · refine ⟨_, _, start _ (Ev.bind a1 (Ev.pos rfl (ps_l2 s v (by omega) l.length hN l.length 0 (by omega)))), fun h => ⟨_, rfl, by have := beq_iff_eq.1 h; omega⟩, fun u hu he => ?_⟩
    have hk : ker v v (hkl (syn l.length (wF l))) (sone s v) := (a2 (sone s v) (if_neg (Nat.lt_irrefl v))).2 fun i hi => if_pos hi
    have hr := (hkl_ker (v := v) (X := fun t => xp l.length (gs l.length (wF l) u t)) (Y := ys l.length (wF l) u) (fun i j h1 h2 => xs_ne hN i j h1 (by omega)) (fun i hi => ys_ne (by omega)) (fun j hj => by rw [syn_near hu (by omega), he])).1 hk
    have hpl : pl (qs s v l.length) l.length = pl (df (wF l) u) l.length := pl_congr l.length fun p hp => by
      rw [Bool.eq_iff_iff, df_xs hN hp]
      unfold qs
      rw [decide_eq_true_eq]
      constructor
      · intro h
        obtain ⟨i, hi, e⟩ := poly_only (v := v) (X := fun t => xp l.length (gs l.length (wF l) u t)) (fun i j h1 h2 => xs_ne hN i j h1 (by omega)) (show sone s v v = 1 from if_neg (Nat.lt_irrefl v)) hr h
        exact ⟨i, by omega, e⟩
      · rintro ⟨i, hi, e⟩
        rw [e]; exact hr i (by omega)
    rw [hpl]
    refine ⟨?_, rfl⟩
    rw [beq_iff_eq]
    have : (pl (df (wF l) u) l.length).length = v := he
    omega
theorem sm_l1 (l : List Int) (hb : Bytes l) (hN : l.length ≤ 255) (u : Nat → F) : ∀ d p, p + d = l.length → Ev (fun k => spec_RsMend.l1 k l (vec l.length fun i => (u i).v) ((dist p (wF l) u : Nat) : Int) (p : Int)) (vec l.length fun i => (u i).v, ((dist l.length (wF l) u : Nat) : Int), true) := by
  intro d
  induction d with
  | zero =>
    intro p hd
    obtain rfl : p = l.length := by omega
    exact Ev.fin (fun k => by rw [spec_RsMend.l1, if_neg (by omega)])
  | succ d ih =>
    intro p hd
    have hp : p < l.length := by omega
    have hl := pl_len_le (df (wF l) u) p
    have h := ih (p + 1) (by omega)
    have hd2 : dist p (wF l) u ≤ p := hl
    refine Ev.step (fun k => ?_) h
    rw [spec_RsMend.l1, if_pos (by omega), if_pos (by omega), if_pos (by rw [vec_len]; omega), rd_vec _ hp, wF_rd hb hp, dist_succ, wsucc (i := p) (by omega)]
    by_cases e : wF l p = u p
    · rw [if_pos (by rw [e]), if_pos e]; rfl
    · rw [if_neg (fun h => e (F.ext (by omega))), if_neg e, wsucc (by omega)]
theorem sm_l0 (l : List Int) (hb : Bytes l) (m : Nat) (hm : 1 ≤ m ∧ m ≤ 8) (hN : l.length ≤ 255) : ∀ d v, v + d = m + 1 → 1 ≤ v → (∀ u, near l.length m (wF l) u → v ≤ dist l.length (wF l) u) →
    ∃ r, Ev (fun k => spec_RsMend.l0 k l (m : Int) (signsL l (2 * m) 0) (v : Int)) r ∧ ((r = ([], 0, false) ∧ ∀ u, ¬ near l.length m (wF l) u) ∨ ∃ u, near l.length m (wF l) u ∧ r = (vec l.length fun i => (u i).v, ((dist l.length (wF l) u : Nat) : Int), true)) := by
  intro d
  induction d with
  | zero =>
    intro v hd h1 hu
    refine ⟨([], 0, false), Ev.fin (fun k => by rw [spec_RsMend.l0, if_neg (by omega)]), .inl ⟨rfl, fun u hn => ?_⟩⟩
    have := hu u hn
    have := hn.2
    omega
  | succ d ih =>
    intro v hd h1 hu
    obtain ⟨o, ok, a1, a2, a3⟩ := places_ev l hb m hm hN v ⟨h1, by omega⟩
    have step : (∀ u, near l.length m (wF l) u → dist l.length (wF l) u ≠ v) → ∃ r, Ev (fun k => spec_RsMend.l0 k l (m : Int) (signsL l (2 * m) 0) ((v + 1 : Nat) : Int)) r ∧ ((r = ([], 0, false) ∧ ∀ u, ¬ near l.length m (wF l) u) ∨ ∃ u, near l.length m (wF l) u ∧ r = (vec l.length fun i => (u i).v, ((dist l.length (wF l) u : Nat) : Int), true)) := fun hne =>
      ih (v + 1) (by omega) (by omega) fun u hn => by
        have := hu u hn
        have := hne u hn
        omega
    cases ok with
    | false =>
      obtain ⟨r, r1, r2⟩ := step fun u hn he => absurd (a3 u hn he).1 (by decide)
      refine ⟨r, Ev.step (fun k => by rw [spec_RsMend.l0, if_pos (by omega)]) (Ev.bind a1 (Ev.neg (fun e => Bool.false_ne_true e) ?_)), r2⟩
      rw [wsucc (by omega)]; exact r1
    | true =>
      obtain ⟨q, rfl, hq⟩ := a2 rfl
      have hg : ∀ i, i < v → (fun i => (pl q l.length).getD i 0) i < l.length := fun i hi => (pl_lt _ l.length _ (getD_mem (by omega))).1
      obtain ⟨w, ok2, p1, p2⟩ := put_ev l hb m hm hN (by omega : v ≤ 2 * m) (fun i => (pl q l.length).getD i 0) hg (fun i j hij hj => pl_inc q l.length i j hij (by omega))
      have p1 : Ev (fun k => spec_l14Put.f k l (signsL l (2 * m) 0) (ints (pl q l.length)) (m : Int)) (w, ok2) := by
        unfold ints
        rw [hq]; exact p1
      have hgo : ∀ r, Ev (fun k => if ok2 = true then (spec_RsMend.l1 k l w 0 0) else (spec_RsMend.l0 k l (m : Int) (signsL l (2 * m) 0) (wrap64 ((v : Int) + 1)))) r → Ev (fun k => spec_RsMend.l0 k l (m : Int) (signsL l (2 * m) 0) (v : Int)) r := fun r h =>
        Ev.step (fun k => by rw [spec_RsMend.l0, if_pos (by omega)]) (Ev.bind a1 (Ev.pos rfl (Ev.bind p1 h)))
      rcases p2 with ⟨rfl, p3⟩ | ⟨s, rfl, rfl, p3⟩
      · obtain ⟨r, r1, r2⟩ := step fun u hn he => by
          have e := (a3 u hn he).2
          have hk := sol_near hn
          have hg2 : ∀ t, t < v → gs l.length (wF l) u t = (pl q l.length).getD t 0 := fun t ht => by
            have h2 : rd (ints (pl q l.length)) (t : Int) = rd (ints (pl (df (wF l) u) l.length)) (t : Int) := by rw [e]
            unfold ints at h2
            have h3 : t < (pl (df (wF l) u) l.length).length := by
              have : (pl (df (wF l) u) l.length).length = v := he
              omega
            rw [rd_vec _ (by omega), rd_vec _ h3] at h2
            show (pl (df (wF l) u) l.length).getD t 0 = _
            omega
          rw [he] at hk
          refine p3 (fun t => if t < v then ys l.length (wF l) u t else 1) (if_neg (Nat.lt_irrefl v)) fun i hi => ?_
          rw [← hk i hi]
          refine sm_congr _ fun j hj => ?_
          unfold sysM
          by_cases hjv : j < v
          · rw [if_pos hjv, if_pos hjv, hg2 j hjv]
          · rw [if_neg hjv, if_neg hjv]
        refine ⟨r, hgo r (Ev.neg (fun e => Bool.false_ne_true e) ?_), r2⟩
        rw [wsucc (by omega)]; exact r1
      · have hk := (p3 (fun i => if i < v then s i else 1) (if_neg (Nat.lt_irrefl v))).2 (fun i hi => if_pos hi)
        exact ⟨_, hgo _ (Ev.pos rfl (sm_l1 l hb hN _ l.length 0 (by omega))), .inr ⟨_, near_put (by omega : v ≤ m) hg hk, rfl⟩⟩
theorem sMend_ev (l : List Int) (hb : Bytes l) (m : Nat) (hm : 1 ≤ m ∧ m ≤ 8) (hwf : (Lit.int .i64 (m : Int)).wf = true) (hN : 2 * m < l.length ∧ l.length ≤ 255) :
    ∃ r, Ev (fun k => spec_RsMend.f k l (m : Int)) r ∧ ((r = ([], 0, false) ∧ ∀ u, ¬ near l.length m (wF l) u) ∨ ∃ u, near l.length m (wF l) u ∧ r = (vec l.length fun i => (u i).v, ((dist l.length (wF l) u : Nat) : Int), true)) := by
  have hw : wordB l (m : Int) = true := by unfold wordB; rw [decide_eq_true_eq]; omega
  have hl : l.length ≤ 1048576 := by omega
  have hc := clean_syn l hb (2 * m) 0
  have start : ∀ r, Ev (fun k => if cleanG l (2 * m) 0 = true then ((some (([] : List Int) : List Int)).bind fun y333 => (if y333.length + l.length < 140737488355328 then (some ((y333 ++ l), 0, true)) else (none))) else (spec_RsMend.l0 k l (m : Int) (signsL l (2 * m) 0) 1)) r → Ev (fun k => spec_RsMend.f k l (m : Int)) r := by
    intro r h
    unfold spec_RsMend.f
    rw [l14Word_eq l _ hwf hl, hw]
    exact Ev.bind (Ev.now _) (Ev.pos rfl (Ev.bind (l14Signs_ev l m hm.2 hl hb) h))
  by_cases h : cleanG l (2 * m) 0 = true
  · refine ⟨(l, 0, true), start _ (Ev.pos h (Ev.bind (Ev.now _) (Ev.pos (by simp; omega) (Ev.now _)))), .inr ⟨wF l, ⟨fun j hj => hc.1 h j (by omega) (by omega), by rw [dist_self]; omega⟩, ?_⟩⟩
    rw [dist_self, ← wF_vec hb]; rfl
  · obtain ⟨r, r1, r2⟩ := sm_l0 l hb m hm hN.2 m 1 (by omega) (Nat.le_refl 1) fun u hu => by
      refine Nat.one_le_iff_ne_zero.2 fun h0 => h (hc.2 fun j _ hj => ?_)
      rw [syn_eq l.length (dist_0 l.length h0) j]
      exact hu.1 j (by omega)
    exact ⟨r, start r (Ev.neg h r1), r2⟩
theorem sMend_no (l : List Int) (m : Int) (hl : l.length ≤ 1048576) (hm : (Lit.int .i64 m).wf = true) (h : wordB l m = false) : Ev (fun k => spec_RsMend.f k l m) ([], 0, false) := by
  unfold spec_RsMend.f
  rw [l14Word_eq l m hm hl, h]
  exact Ev.bind (Ev.now _) (Ev.neg (by decide) (Ev.now _))
theorem near_word {l : List Int} {m : Nat} (hN : l.length ≤ 255) {u u' : Nat → F} (h : near l.length m (wF l) u) (h' : near l.length m (wF l) u') : (vec l.length fun i => (u i).v, ((dist l.length (wF l) u : Nat) : Int), true) = (vec l.length fun i => (u' i).v, ((dist l.length (wF l) u' : Nat) : Int), true) := by
  have e := near_uniq hN h h'
  rw [vec_congr (s := fun i => (u' i).v) (fun p hp => by rw [e p hp]), dist_eq l.length e]
/-- RsMend: both tell one answer; a near word, where there is one. -/
theorem RsMend_more (l : List Int) (m : Int) (hl : l.length ≤ 1048576) (hb : Bytes l) (hm : (Lit.int .i64 m).wf = true) : ∃ (r : List Int) (d : Int) (ok : Bool), Ev (fun k => spec_RsMend.f k l m) (r, d, ok) ∧ Ev (fun k => impl_RsMend.f k l m) (r, d, ok) ∧ r.length ≤ 17592186044416 ∧ ((ok = false ∧ r = [] ∧ d = 0) ∨ ∃ (M : Nat) (u : Nat → F), ok = true ∧ m = M ∧ 1 ≤ M ∧ M ≤ 8 ∧ 2 * M < l.length ∧ l.length ≤ 255 ∧ near l.length M (wF l) u ∧ r = (vec l.length fun i => (u i).v) ∧ d = ((dist l.length (wF l) u : Nat) : Int)) := by
  cases hw : wordB l m with
  | false => exact ⟨[], 0, false, sMend_no l m hl hm hw, iMend_no l m hm hw, by simp, .inl ⟨rfl, rfl, rfl⟩⟩
  | true =>
    have hq : 1 ≤ m ∧ m ≤ 8 ∧ 2 * m < (l.length : Int) ∧ l.length ≤ 255 := by unfold wordB at hw; exact of_decide_eq_true hw
    obtain ⟨M, rfl⟩ : ∃ M : Nat, m = M := ⟨m.toNat, by omega⟩
    obtain ⟨r1, a1, a2⟩ := sMend_ev l hb M (by omega) hm (by omega)
    obtain ⟨r2, b1, b2⟩ := iMend_ev l hb M (by omega) hm (by omega)
    rcases a2 with ⟨rfl, a3⟩ | ⟨u, hu, rfl⟩
    · rcases b2 with ⟨rfl, b3⟩ | ⟨u', hu', rfl⟩
      · exact ⟨[], 0, false, a1, b1, by simp, .inl ⟨rfl, rfl, rfl⟩⟩
      · exact absurd hu' (a3 u')
    · rcases b2 with ⟨rfl, b3⟩ | ⟨u', hu', rfl⟩
      · exact absurd hu (b3 u)
      · rw [near_word hq.2.2.2 hu' hu] at b1
        exact ⟨_, _, true, a1, b1, by rw [vec_len]; omega, .inr ⟨M, u, rfl, rfl, by omega, by omega, by omega, by omega, hu, rfl, rfl⟩⟩
theorem RsMend_both (l : List Int) (m : Int) (hl : l.length ≤ 1048576) (hb : Bytes l) (hm : (Lit.int .i64 m).wf = true) : ∃ (r : List Int) (d : Int) (ok : Bool), Ev (fun k => spec_RsMend.f k l m) (r, d, ok) ∧ Ev (fun k => impl_RsMend.f k l m) (r, d, ok) ∧ r.length ≤ 17592186044416 := by
  obtain ⟨r, d, ok, h1, h2, h3, _⟩ := RsMend_more l m hl hb hm
  exact ⟨r, d, ok, h1, h2, h3⟩
/-! The generator's numbers, the highest power first; j steps have been made. -/
def genN : Nat → Nat → Nat
  | 0, p => if p = 0 then 1 else 0
  | j + 1, p => if 1 ≤ p ∧ p ≤ j + 1 then genN j p ^^^ gm (genN j (p - 1)) (pwN j) else genN j p
theorem genN_lt : ∀ j p, genN j p < 256
  | 0, p => by unfold genN; split <;> omega
  | j + 1, p => by
    unfold genN; split
    · exact xor_lt (genN_lt j p) (gm_lt _ (genN_lt j _))
    · exact genN_lt j p
theorem genN_end : ∀ j p, j < p → genN j p = 0
  | 0, p, h => by unfold genN; rw [if_neg (by omega)]
  | j + 1, p, h => by unfold genN; rw [if_neg (by omega), genN_end j p (by omega)]
/-- While a step is made: the places up to k are done. -/
def genM (j k p : Nat) : Nat := if 1 ≤ p ∧ p ≤ k then genN j p ^^^ gm (genN j (p - 1)) (pwN j) else genN j p
theorem genM_zero (j p : Nat) : genM j 0 p = genN j p := by unfold genM; rw [if_neg (by omega)]
theorem genM_step (j k p : Nat) : upd (genM j k) (k + 1) (genN j (k + 1) ^^^ gm (genN j k) (pwN j)) p = genM j (k + 1) p := by
  unfold upd genM
  by_cases h : p = k + 1
  · subst h; rw [if_pos rfl, if_pos (by omega)]; rfl
  · rw [if_neg h]
    by_cases h2 : 1 ≤ p ∧ p ≤ k
    · rw [if_pos h2, if_pos (by omega)]
    · rw [if_neg h2, if_neg (by omega)]
theorem gen_app (j : Nat) : vec (j + 1) (genN j) ++ [(0 : Int)] = vec (j + 2) (genM j 0) := by
  rw [vec_congr (s := genN j) (fun p _ => genM_zero j p), vec_snoc (j + 1), genN_end j (j + 1) (by omega)]; rfl
theorem gen_dn (j : Nat) : vec (j + 2) (genM j (j + 1)) = vec (j + 1 + 1) (genN (j + 1)) := vec_congr fun p _ => by unfold genM; rfl
theorem gmI_lt {a b : Nat} (ha : a < 256) (hb : b < 256) : gmI (a : Int) (b : Int) = ((gm a b : Nat) : Int) := gmI_nat ha hb
theorem iRs_l1 (l : List Int) (m : Int) (n2 : Int) (R : List Int × Bool) (j : Nat) (hj : j ≤ 100)
    (h : Ev (fun k => impl_RsCode.l0 k l m (vec (j + 2) (genN (j + 1))) n2 ((j + 1 : Nat) : Int)) R) : ∀ (d k : Nat), k + d = j + 1 →
    Ev (fun f => impl_RsCode.l1 f l m ((pwN j : Nat) : Int) (vec (j + 2) (genM j k)) n2 (j : Int) (vec (j + 1) (genN j)) ((vec (j + 1) (genN j)).length : Int) (k : Int)) R := by
  intro d
  rw [vec_len]
  induction d with
  | zero =>
    intro k hd
    obtain rfl : k = j + 1 := by omega
    refine Ev.step (fun f => ?_) h
    rw [impl_RsCode.l1, if_neg (by omega), wsucc (by omega), gen_dn]
  | succ d ih =>
    intro k hd
    have hg := genN_lt j k
    have hg1 := genN_lt j (k + 1)
    have hw := pwN_lt j
    refine Ev.step (fun f => by rw [impl_RsCode.l1, wsucc (by omega), vec_len, vec_len, if_pos (by omega), if_pos (by omega), if_pos (by omega), if_pos (by omega), if_pos (by omega)]) (Ev.bind (iGfMul_ev _ _) ?_)
    have e : genM j k (k + 1) = genN j (k + 1) := by unfold genM; rw [if_neg (by omega)]
    have hx := gm_lt (pwN j) hg
    rw [rd_vec _ (by omega), rd_vec _ (by omega), gmI_nat hg hw, e, xor64 _ _ (by omega) (by omega), Int.toNat_natCast, set_vec _ _ (by omega), vec_congr (fun p _ => genM_step j k p)]
    exact ih (k + 1) (by omega)
theorem sRs_l1 (l : List Int) (m : Int) (R : List Int × Bool) (j : Nat) (hj : j ≤ 100)
    (h : Ev (fun k => spec_RsCode.l0 k l m (vec (j + 2) (genN (j + 1))) ((j + 1 : Nat) : Int)) R) : ∀ (d k : Nat), k + d = j + 1 →
    Ev (fun f => spec_RsCode.l1 f l m (vec (j + 1) (genN j)) (j : Int) (vec (j + 2) (genM j k)) (k : Int)) R := by
  intro d
  induction d with
  | zero =>
    intro k hd
    obtain rfl : k = j + 1 := by omega
    refine Ev.step (fun f => ?_) h
    rw [spec_RsCode.l1, vec_len, if_neg (by omega), wsucc (by omega), gen_dn]
  | succ d ih =>
    intro k hd
    have hg := genN_lt j k
    have hg1 := genN_lt j (k + 1)
    have hw := pwN_lt j
    refine Ev.step (fun f => by rw [spec_RsCode.l1, wsucc (by omega), vec_len, vec_len, if_pos (by omega), if_pos (by omega), if_pos (by omega), if_pos (by omega)]) (Ev.bind (l14Pow_ev j) (Ev.bind (sGfMul_ev _ _) ?_))
    have e : genM j k (k + 1) = genN j (k + 1) := by unfold genM; rw [if_neg (by omega)]
    have hx := gm_lt (pwN j) hg
    rw [rd_vec _ (by omega), rd_vec _ (by omega), gmI_nat hg hw, e, xor64 _ _ (by omega) (by omega), Int.toNat_natCast, set_vec _ _ (by omega), vec_congr (fun p _ => genM_step j k p)]
    exact ih (k + 1) (by omega)
/-! The rests while the data are divided: dt is the data, g the generator, T the rest's length. -/
def lfs (T : Nat) (g dt : Nat → Nat) : Nat → Nat → Nat
  | 0, _ => 0
  | i + 1, k => (if k + 1 < T then lfs T g dt i (k + 1) else 0) ^^^ gm (lfs T g dt i 0 ^^^ dt i) (g (k + 1))
def dvs (T : Nat) (g dt : Nat → Nat) : Nat → Nat → Nat
  | 0, p => dt p
  | i + 1, p => if i ≤ p ∧ p < i + (T + 1) then dvs T g dt i p ^^^ gm (g (p - i)) (dvs T g dt i i) else dvs T g dt i p
theorem lfs_lt {T : Nat} {g dt : Nat → Nat} (hd : ∀ p, dt p < 256) : ∀ i k, lfs T g dt i k < 256
  | 0, k => by unfold lfs; omega
  | i + 1, k => by
    unfold lfs
    have := lfs_lt (T := T) (g := g) hd i (k + 1)
    exact xor_lt (by split <;> omega) (gm_lt _ (xor_lt (lfs_lt hd i 0) (hd i)))
theorem dvs_lt {T : Nat} {g dt : Nat → Nat} (hg : ∀ p, g p < 256) (hd : ∀ p, dt p < 256) : ∀ i k, dvs T g dt i k < 256
  | 0, k => by unfold dvs; exact hd k
  | i + 1, k => by
    unfold dvs
    split
    · exact xor_lt (dvs_lt hg hd i k) (gm_lt _ (hg _))
    · exact dvs_lt hg hd i k
theorem dvs_lfs {T : Nat} {g dt : Nat → Nat} (hT : 0 < T) (hg : ∀ p, g p < 256) (hd : ∀ p, dt p < 256) : ∀ i p, i ≤ p → dvs T g dt i p = (if p - i < T then lfs T g dt i (p - i) else 0) ^^^ dt p
  | 0, p, _ => by
    unfold dvs lfs
    split <;> rw [Nat.zero_xor]
  | i + 1, p, h => by
    have e0 := dvs_lfs hT hg hd i i (Nat.le_refl _)
    have e1 := dvs_lfs hT hg hd i p (by omega)
    rw [Nat.sub_self, if_pos hT] at e0
    obtain ⟨k, rfl⟩ : ∃ k, p = i + 1 + k := ⟨p - (i + 1), by omega⟩
    have ek : i + 1 + k - i = k + 1 := by omega
    have ek1 : i + 1 + k - (i + 1) = k := by omega
    rw [ek] at e1
    rw [ek1]
    unfold dvs
    rw [ek]
    by_cases hk : k < T
    · rw [if_pos (by omega), if_pos hk, e1, e0]
      conv => rhs; unfold lfs
      rw [gm_comm (hg _) (xor_lt (lfs_lt hd _ _) (hd _)), Nat.xor_assoc, Nat.xor_comm (dt _), ← Nat.xor_assoc]
    · rw [if_neg (by omega), if_neg hk, e1, if_neg (by omega)]
theorem set_upd {L : Nat} (r : Nat → Nat) {q : Nat} (v : Nat) (h : q < L) : (vec L r).set ((q : Nat) : Int).toNat ((v : Nat) : Int) = vec L (upd r q v) := by
  rw [Int.toNat_natCast, set_vec _ _ h]
/-- While one place is divided: the generator's places up to k are done. -/
def dvM (g r : Nat → Nat) (i x k p : Nat) : Nat := if i ≤ p ∧ p < i + k then r p ^^^ gm (g (p - i)) x else r p
theorem dvM_step (g r : Nat → Nat) (i x k p : Nat) : upd (dvM g r i x k) (i + k) (r (i + k) ^^^ gm (g k) x) p = dvM g r i x (k + 1) p := by
  unfold upd dvM
  by_cases h : p = i + k
  · subst h; rw [if_pos rfl, if_pos (by omega), Nat.add_sub_cancel_left]
  · rw [if_neg h]
    by_cases h2 : i ≤ p ∧ p < i + k
    · rw [if_pos h2, if_pos (by omega)]
    · rw [if_neg h2, if_neg (by omega)]
theorem iRs_l4 (l : List Int) (T L : Nat) (g r : Nat → Nat) (hg : ∀ p, g p < 256) (hr : ∀ p, r p < 256) (n : Int) (R : List Int × Bool) (i x : Nat) (hx : x < 256) (hi : i + (T + 1) ≤ L) (hL : L ≤ 1000)
    (h : Ev (fun f => impl_RsCode.l3 f l (vec (T + 1) g) (vec L (dvM g r i x (T + 1))) n ((i + 1 : Nat) : Int)) R) : ∀ (d k : Nat), k + d = T + 1 →
    Ev (fun f => impl_RsCode.l4 f l (vec (T + 1) g) (vec L (dvM g r i x k)) (i : Int) (x : Int) n (i : Int) (vec (T + 1) g) ((vec (T + 1) g).length : Int) (k : Int)) R := by
  intro d
  rw [vec_len]
  induction d with
  | zero =>
    intro k hd
    obtain rfl : k = T + 1 := by omega
    refine Ev.step (fun f => ?_) h
    rw [impl_RsCode.l4, if_neg (by omega), wsucc (by omega)]
  | succ d ih =>
    intro k hd
    have ew : wrap64 ((i : Int) + (k : Int)) = ((i + k : Nat) : Int) := by rw [w64 (by omega) (by omega)]; omega
    have hgk := hg k
    have hrk := hr (i + k)
    have hxx := gm_lt x hgk
    have e : dvM g r i x k (i + k) = r (i + k) := by unfold dvM; rw [if_neg (by omega)]
    refine Ev.step (fun f => by rw [impl_RsCode.l4, ew, wsucc (by omega), vec_len, vec_len, if_pos (by omega), if_pos (by omega), if_pos (by omega), if_pos (by omega), if_pos (by omega)]) (Ev.bind (iGfMul_ev _ _) ?_)
    rw [rd_vec _ (by omega), rd_vec _ (by omega), gmI_nat hgk hx, e, xor64 _ _ (by omega) (by omega), set_upd _ _ (by omega), vec_congr (fun p _ => dvM_step g r i x k p)]
    exact ih (k + 1) (by omega)
theorem iRs_l5 (acc : List Int) (T : Nat) (s : Nat → Nat) (hs : ∀ p, s p < 256) (ha : acc.length ≤ 1000) (hT : T ≤ 1000) : ∀ (d k : Nat), k + d = T →
    Ev (fun f => impl_RsCode.l5 f (acc ++ vec k s) (vec T s) ((vec T s).length : Int) (k : Int)) (acc ++ vec T s, true) := by
  intro d
  rw [vec_len]
  induction d with
  | zero =>
    intro k hd
    obtain rfl : k = T := by omega
    exact Ev.fin (fun f => by rw [impl_RsCode.l5, if_neg (by omega)])
  | succ d ih =>
    intro k hd
    have hsk := hs k
    refine Ev.step (fun f => ?_) (ih (k + 1) (by omega))
    have e : ((s k : Nat) : Int) % 256 = ((s k : Nat) : Int) := by omega
    rw [impl_RsCode.l5, wsucc (by omega), vec_len, if_pos (by omega), if_pos (by omega), if_pos (by omega), if_pos (by rw [List.length_append, vec_len]; omega), rd_vec _ (by omega), e, List.append_assoc, ← vec_snoc]
theorem sRs_l4 (acc : List Int) (T : Nat) (s : Nat → Nat) (hs : ∀ p, s p < 256) (ha : acc.length ≤ 1000) (hT : T ≤ 1000) : ∀ (d k : Nat), k + d = T →
    Ev (fun f => spec_RsCode.l4 f (vec T s) (acc ++ vec k s) (k : Int)) (acc ++ vec T s, true) := by
  intro d
  induction d with
  | zero =>
    intro k hd
    obtain rfl : k = T := by omega
    exact Ev.fin (fun f => by rw [spec_RsCode.l4, vec_len, if_neg (by omega)])
  | succ d ih =>
    intro k hd
    have hsk := hs k
    refine Ev.step (fun f => ?_) (ih (k + 1) (by omega))
    have e : ((s k : Nat) : Int) % 256 = ((s k : Nat) : Int) := by omega
    rw [spec_RsCode.l4, wsucc (by omega), vec_len, if_pos (by omega), if_pos (by omega), if_pos (by rw [List.length_append, vec_len]; omega), rd_vec _ (by omega), e, List.append_assoc, ← vec_snoc]
/-- The word of data: the data and what is left when they are divided. -/
def rsN (l : List Int) (m : Nat) : List Int := l ++ vec (2 * m) (lfs (2 * m) (genN (2 * m)) (tl l) l.length)
theorem tl_lt {l : List Int} (hb : Bytes l) (p : Nat) : tl l p < 256 := by
  by_cases h : p < l.length
  · have := wfb (hb _ (rd_mem (xs := l) (i := p) h)); unfold tl; omega
  · rw [tl_end (by omega)]; omega
theorem rd_tl {l : List Int} (hb : Bytes l) {p : Nat} (h : p < l.length) : rd l (p : Int) = ((tl l p : Nat) : Int) := by
  have := wfb (hb _ (rd_mem (xs := l) (i := p) h)); unfold tl; omega
theorem iRs_l3 (l : List Int) (hb : Bytes l) (m : Nat) (hm : 1 ≤ m ∧ m ≤ 8) (hl : l.length ≤ 255) : ∀ (d i : Nat), i + d = l.length →
    Ev (fun f => impl_RsCode.l3 f l (vec (2 * m + 1) (genN (2 * m))) (vec (l.length + 2 * m) (dvs (2 * m) (genN (2 * m)) (tl l) i)) (l.length : Int) (i : Int)) (rsN l m, true) := by
  have hg := genN_lt (2 * m)
  have ht := tl_lt hb
  have hlt : ∀ i p, dvs (2 * m) (genN (2 * m)) (tl l) i p < 256 := dvs_lt hg ht
  intro d
  induction d with
  | zero =>
    intro i hd
    obtain rfl : i = l.length := by omega
    refine Ev.step (fun f => by rw [impl_RsCode.l3, if_neg (by omega)]) (Ev.bind0 (a := l) (by unfold slices_Clone_byte_byte.f; rw [if_pos (by simp; omega)]) ?_)
    refine Ev.pos (by omega) (Ev.pos (by rw [vec_len]; omega) (Ev.bind0 rfl ?_))
    rw [Int.toNat_natCast, drop_vec, Nat.add_sub_cancel_left]
    unfold rsN
    rw [vec_congr (r := fun p => dvs (2 * m) (genN (2 * m)) (tl l) l.length (l.length + p)) (s := lfs (2 * m) (genN (2 * m)) (tl l) l.length) (fun p hp => by
      show dvs (2 * m) (genN (2 * m)) (tl l) l.length (l.length + p) = _
      rw [dvs_lfs (by omega) hg ht l.length (l.length + p) (by omega), Nat.add_sub_cancel_left, if_pos hp, tl_end (by omega), Nat.xor_zero])]
    have h := iRs_l5 l (2 * m) (lfs (2 * m) (genN (2 * m)) (tl l) l.length) (lfs_lt ht _) (by omega) (by omega) (2 * m) 0 (by omega)
    have e0 : ∀ s, vec 0 s = [] := fun s => rfl
    rw [e0, List.append_nil] at h
    exact h
  | succ d ih =>
    intro i hd
    refine Ev.step (fun f => by rw [impl_RsCode.l3, vec_len, if_pos (by omega), if_pos (by omega), if_pos (by omega), rd_vec _ (by omega)]) ?_
    have h := iRs_l4 l (2 * m) (l.length + 2 * m) (genN (2 * m)) (dvs (2 * m) (genN (2 * m)) (tl l) i) hg (hlt i) (l.length : Int) (rsN l m, true) i (dvs (2 * m) (genN (2 * m)) (tl l) i i) (hlt i i) (by omega) (by omega) (ih (i + 1) (by omega)) (2 * m + 1) 0 (by omega)
    have e : vec (l.length + 2 * m) (dvM (genN (2 * m)) (dvs (2 * m) (genN (2 * m)) (tl l) i) i (dvs (2 * m) (genN (2 * m)) (tl l) i i) 0) = vec (l.length + 2 * m) (dvs (2 * m) (genN (2 * m)) (tl l) i) := vec_congr fun p _ => by unfold dvM; rw [if_neg (by omega)]
    rw [e] at h
    exact h
/-- The data are laid at the start of the rest. -/
def ldM (l : List Int) (i p : Nat) : Nat := if p < i then tl l p else 0
theorem ldM_step (l : List Int) (i p : Nat) : upd (ldM l i) i (tl l i) p = ldM l (i + 1) p := by
  unfold upd ldM
  by_cases h : p = i
  · subst h; rw [if_pos rfl, if_pos (by omega)]
  · rw [if_neg h]
    by_cases h2 : p < i
    · rw [if_pos h2, if_pos (by omega)]
    · rw [if_neg h2, if_neg (by omega)]
theorem iRs_l2 (l : List Int) (hb : Bytes l) (m : Nat) (hm : 1 ≤ m ∧ m ≤ 8) (hl : l.length ≤ 255) : ∀ (d i : Nat), i + d = l.length →
    Ev (fun f => impl_RsCode.l2 f l (vec (2 * m + 1) (genN (2 * m))) (vec (l.length + 2 * m) (ldM l i)) l (l.length : Int) (i : Int)) (rsN l m, true) := by
  intro d
  induction d with
  | zero =>
    intro i hd
    obtain rfl : i = l.length := by omega
    refine Ev.step (fun f => ?_) (iRs_l3 l hb m hm hl l.length 0 (by omega))
    rw [impl_RsCode.l2, if_neg (by omega)]
    congr 1
    exact vec_congr fun p _ => by
      unfold ldM dvs
      by_cases h : p < l.length
      · rw [if_pos h]
      · rw [if_neg h, tl_end (by omega)]
  | succ d ih =>
    intro i hd
    have ht := tl_lt hb i
    refine Ev.step (fun f => ?_) (ih (i + 1) (by omega))
    rw [impl_RsCode.l2, vec_len, if_pos (by omega), if_pos (by omega), if_pos (by omega), if_pos (by omega), rd_tl hb (by omega), w64 (n := ((tl l i : Nat) : Int)) (by omega) (by omega), wsucc (by omega), set_upd _ _ (by omega), vec_congr (fun p _ => ldM_step l i p)]
theorem cloneI_some (l : List Int) (h : l.length ≤ 1000) : slices_Clone_int_int.f l = some l := by
  unfold slices_Clone_int_int.f; rw [if_pos (by simp; omega)]
theorem iRs_l0 (l : List Int) (hb : Bytes l) (m : Nat) (hm : 1 ≤ m ∧ m ≤ 8) (hl : l.length ≤ 255) : ∀ (d j : Nat), j + d = 2 * m →
    Ev (fun f => impl_RsCode.l0 f l (m : Int) (vec (j + 1) (genN j)) ((2 * m : Nat) : Int) (j : Int)) (rsN l m, true) := by
  have e2 : wrap64 (2 * (m : Int)) = ((2 * m : Nat) : Int) := by rw [w64 (by omega) (by omega)]; omega
  have e3 : wrap64 ((l.length : Int) + ((2 * m : Nat) : Int)) = ((l.length + 2 * m : Nat) : Int) := by rw [w64 (by omega) (by omega)]; omega
  intro d
  induction d with
  | zero =>
    intro j hd
    obtain rfl : j = 2 * m := by omega
    refine Ev.step (fun f => ?_) (iRs_l2 l hb m hm hl l.length 0 (by omega))
    rw [impl_RsCode.l0, if_neg (by omega), e2, e3, if_pos (by omega), if_pos (by omega), Int.toNat_natCast, vec_rep]
    congr 1
  | succ d ih =>
    intro j hd
    refine Ev.step (fun f => by rw [impl_RsCode.l0, if_pos (by omega)]) (Ev.bind (igfPow_ev j) (Ev.bind0 (cloneI_some (vec (j + 1) (genN j)) (by rw [vec_len]; omega)) ?_))
    refine Ev.pos (by rw [vec_len]; omega) ?_
    rw [gen_app]
    exact iRs_l1 l (m : Int) ((2 * m : Nat) : Int) (rsN l m, true) j (by omega) (ih (j + 1) (by omega)) (j + 1) 0 (by omega)
theorem sRs_l3 (l : List Int) (T : Nat) (g s : Nat → Nat) (hg : ∀ p, g p < 256) (hs : ∀ p, s p < 256) (R : List Int × Bool) (i x : Nat) (hi : i ≤ 1000) (hx : x < 256) (hT : T ≤ 100)
    (h : Ev (fun f => spec_RsCode.l2 f l (vec (T + 1) g) (vec T (fun p => s p ^^^ gm x (g (p + 1)))) ((i + 1 : Nat) : Int)) R) : ∀ (d k : Nat), k + d = T →
    Ev (fun f => spec_RsCode.l3 f l (vec (T + 1) g) (vec T (fun p => if p < k then s p ^^^ gm x (g (p + 1)) else s p)) (i : Int) (x : Int) (k : Int)) R := by
  intro d
  induction d with
  | zero =>
    intro k hd
    obtain rfl : k = T := by omega
    refine Ev.step (fun f => ?_) h
    rw [spec_RsCode.l3, vec_len, if_neg (by omega), wsucc (by omega), vec_congr (r := fun p => if p < k then s p ^^^ gm x (g (p + 1)) else s p) (s := fun p => s p ^^^ gm x (g (p + 1))) (fun p hp => if_pos hp)]
  | succ d ih =>
    intro k hd
    have hgk := hg (k + 1)
    have hsk := hs k
    have hxx := gm_lt (g (k + 1)) hx
    refine Ev.step (fun f => by rw [spec_RsCode.l3, wsucc (by omega), vec_len, vec_len, if_pos (by omega), if_pos (by omega), if_pos (by omega), if_pos (by omega)]) (Ev.bind (sGfMul_ev _ _) ?_)
    have hi2 := ih (k + 1) (by omega)
    rw [vec_congr (r := fun p => if p < k + 1 then s p ^^^ gm x (g (p + 1)) else s p) (s := upd (fun p => if p < k then s p ^^^ gm x (g (p + 1)) else s p) k (s k ^^^ gm x (g (k + 1)))) (fun p hp => by
      unfold upd
      by_cases h : p = k
      · subst h; rw [if_pos rfl]; exact if_pos (by omega)
      · rw [if_neg h]
        show _ = (if p < k then s p ^^^ gm x (g (p + 1)) else s p)
        by_cases h2 : p < k
        · rw [if_pos h2]; exact if_pos (by omega)
        · rw [if_neg h2]; exact if_neg (by omega))] at hi2
    rw [rd_vec _ (by omega), rd_vec _ (by omega), gmI_nat hx hgk, if_neg (by omega), xor64 _ _ (by omega) (by omega), set_upd _ _ (by omega)]
    exact hi2
theorem sRs_l2 (l : List Int) (hb : Bytes l) (m : Nat) (hm : 1 ≤ m ∧ m ≤ 8) (hl : l.length ≤ 255) : ∀ (d i : Nat), i + d = l.length →
    Ev (fun f => spec_RsCode.l2 f l (vec (2 * m + 1) (genN (2 * m))) (vec (2 * m) (lfs (2 * m) (genN (2 * m)) (tl l) i)) (i : Int)) (rsN l m, true) := by
  have hg := genN_lt (2 * m)
  have ht := tl_lt hb
  have hlt : ∀ i p, lfs (2 * m) (genN (2 * m)) (tl l) i p < 256 := lfs_lt ht
  intro d
  induction d with
  | zero =>
    intro i hd
    obtain rfl : i = l.length := by omega
    refine Ev.step (fun f => by rw [spec_RsCode.l2, if_neg (by omega)]) (Ev.bind0 rfl ?_)
    refine Ev.pos (by rw [List.length_nil]; omega) ?_
    have h := sRs_l4 l (2 * m) (lfs (2 * m) (genN (2 * m)) (tl l) l.length) (hlt _) (by omega) (by omega) (2 * m) 0 (by omega)
    have e0 : ∀ s, vec 0 s = [] := fun s => rfl
    rw [e0, List.append_nil] at h
    exact h
  | succ d ih =>
    intro i hd
    have h1 := hlt i 0
    have h2 := ht i
    have h3 : lfs (2 * m) (genN (2 * m)) (tl l) i 0 ^^^ tl l i < 256 := xor_lt h1 h2
    refine Ev.step (fun f => by rw [spec_RsCode.l2, vec_len, if_pos (by omega), if_pos (by omega), if_pos (by omega)]) (Ev.bind0 rfl ?_)
    refine Ev.pos (by omega) (Ev.bind0 rfl ?_)
    refine Ev.pos (by rw [drop_vec, vec_len, List.length_nil]; omega) (Ev.bind0 rfl ?_)
    refine Ev.pos (by rw [drop_vec, List.nil_append, vec_len]; omega) ?_
    have r0 := rd_vec (L := 2 * m) (lfs (2 * m) (genN (2 * m)) (tl l) i) (p := 0) (by omega)
    rw [Int.ofNat_zero] at r0
    rw [r0, rd_tl hb (by omega), w64 (n := ((tl l i : Nat) : Int)) (by omega) (by omega), xor64 _ _ (by omega) (by omega), drop_vec, List.nil_append]
    have e : vec (2 * m - 1) (fun p => lfs (2 * m) (genN (2 * m)) (tl l) i (1 + p)) ++ [(0 : Int)] = vec (2 * m) (fun p => if p < 0 then (if p + 1 < 2 * m then lfs (2 * m) (genN (2 * m)) (tl l) i (p + 1) else 0) ^^^ gm (lfs (2 * m) (genN (2 * m)) (tl l) i 0 ^^^ tl l i) (genN (2 * m) (p + 1)) else (if p + 1 < 2 * m then lfs (2 * m) (genN (2 * m)) (tl l) i (p + 1) else 0)) := by
      obtain ⟨T, hT⟩ : ∃ T, 2 * m = T + 1 := ⟨2 * m - 1, by omega⟩
      rw [hT, Nat.add_sub_cancel, vec_snoc, vec_congr (fun p hp => by
        show lfs (T + 1) (genN (T + 1)) (tl l) i (1 + p) = (fun p => if p < 0 then (if p + 1 < T + 1 then lfs (T + 1) (genN (T + 1)) (tl l) i (p + 1) else 0) ^^^ gm (lfs (T + 1) (genN (T + 1)) (tl l) i 0 ^^^ tl l i) (genN (T + 1) (p + 1)) else (if p + 1 < T + 1 then lfs (T + 1) (genN (T + 1)) (tl l) i (p + 1) else 0)) p
        dsimp only
        rw [if_neg (by omega), if_pos (by omega), Nat.add_comm 1 p])]
      congr 1
      rw [if_neg (by omega), if_neg (by omega)]; rfl
    rw [e]
    exact sRs_l3 l (2 * m) (genN (2 * m)) _ hg (fun p => by split <;> first | exact hlt _ _ | omega) (rsN l m, true) i _ (by omega) h3 (by omega) (ih (i + 1) (by omega)) (2 * m) 0 (by omega)
theorem sRs_l0 (l : List Int) (hb : Bytes l) (m : Nat) (hm : 1 ≤ m ∧ m ≤ 8) (hl : l.length ≤ 255) : ∀ (d j : Nat), j + d = 2 * m →
    Ev (fun f => spec_RsCode.l0 f l (m : Int) (vec (j + 1) (genN j)) (j : Int)) (rsN l m, true) := by
  have e2 : wrap64 (2 * (m : Int)) = ((2 * m : Nat) : Int) := by rw [w64 (by omega) (by omega)]; omega
  intro d
  induction d with
  | zero =>
    intro j hd
    obtain rfl : j = 2 * m := by omega
    refine Ev.step (fun f => ?_) (sRs_l2 l hb m hm hl l.length 0 (by omega))
    rw [spec_RsCode.l0, e2, if_neg (by omega), if_pos (by omega), if_pos (by omega), Int.toNat_natCast, vec_rep]
    congr 1
  | succ d ih =>
    intro j hd
    refine Ev.step (fun f => by rw [spec_RsCode.l0, e2, if_pos (by omega)]) (Ev.bind0 rfl ?_)
    refine Ev.pos (by rw [vec_len, List.length_nil]; omega) (Ev.bind0 rfl ?_)
    refine Ev.pos (by rw [List.nil_append, vec_len]; omega) ?_
    rw [List.nil_append, gen_app]
    exact sRs_l1 l (m : Int) (rsN l m, true) j (by omega) (ih (j + 1) (by omega)) (j + 1) 0 (by omega)
theorem l14Mend_eq (m : Int) : spec_l14Mend.f m = some (decide (1 ≤ m ∧ m ≤ 8)) := by unfold spec_l14Mend.f; rw [l1In_eq]; rfl
theorem RsCode_more (l : List Int) (hl : l.length ≤ 1048576) (hb : Bytes l) (m : Int) (hm : (Lit.int .i64 m).wf = true) : ∃ (r : List Int) (ok : Bool), Ev (fun k => spec_RsCode.f k l m) (r, ok) ∧ Ev (fun k => impl_RsCode.f k l m) (r, ok) ∧ r.length ≤ 17592186044416 ∧ (ok = true → ∃ n : Nat, m = n ∧ 1 ≤ n ∧ n ≤ 8 ∧ 1 ≤ l.length ∧ l.length + 2 * n ≤ 255 ∧ r = rsN l n) := by
  have hw := wfi hm
  by_cases h : 1 ≤ m ∧ m ≤ 8 ∧ 1 ≤ l.length ∧ (l.length : Int) + 2 * m ≤ 255
  · obtain ⟨n, rfl⟩ : ∃ n : Nat, m = n := ⟨m.toNat, by omega⟩
    have e2 : wrap64 (2 * (n : Int)) = ((2 * n : Nat) : Int) := by rw [w64 (by omega) (by omega)]; omega
    have e3 : wrap64 (255 - ((2 * n : Nat) : Int)) = 255 - ((2 * n : Nat) : Int) := w64 (by omega) (by omega)
    refine ⟨rsN l n, true, ?_, ?_, by unfold rsN; rw [List.length_append, vec_len]; omega, fun _ => ⟨n, rfl, by omega, by omega, by omega, by omega, rfl⟩⟩
    · unfold spec_RsCode.f
      refine Ev.bind0 (l14Mend_eq _) (Ev.pos (by rw [decide_eq_true_eq]; omega) (Ev.bind0 (l1In_eq _ _ _) ?_))
      rw [e2, e3, decide_eq_true (by omega)]
      exact Ev.step (fun f => by rw [spec_RsCode.j0, if_neg (by decide)]; rfl) (sRs_l0 l hb n (by omega) (by omega) (2 * n) 0 (by omega))
    · unfold impl_RsCode.f
      have em : impl_isMend.f (n : Int) = some true := by
        unfold impl_isMend.f
        simp only [ge_iff_le]
        repeat (first | rw [if_pos (by omega)] | rw [decide_eq_true (by omega)])
      refine Ev.bind0 em (Ev.pos rfl (Ev.neg (by omega) ?_))
      rw [e2, e3, decide_eq_false (by omega)]
      refine Ev.step (fun f => by rw [impl_RsCode.j0, if_neg (by decide), e2]; rfl) (iRs_l0 l hb n (by omega) (by omega) (2 * n) 0 (by omega))
  · refine ⟨[], false, ?_, ?_, by simp, fun h => absurd h (by simp)⟩
    · unfold spec_RsCode.f
      refine Ev.bind0 (l14Mend_eq _) ?_
      by_cases h1 : 1 ≤ m ∧ m ≤ 8
      · have e2 : wrap64 (2 * m) = 2 * m := w64 (by omega) (by omega)
        have e3 : wrap64 (255 - 2 * m) = 255 - 2 * m := w64 (by omega) (by omega)
        refine Ev.pos (by rw [decide_eq_true_eq]; omega) (Ev.bind0 (l1In_eq _ _ _) ?_)
        rw [e2, e3, decide_eq_false (by omega)]
        exact Ev.fin (fun f => by rw [spec_RsCode.j0, if_pos (by simp)])
      · exact Ev.neg (by rw [decide_eq_true_eq]; omega) (Ev.fin (fun f => by rw [spec_RsCode.j0, if_pos (by simp)]))
    · unfold impl_RsCode.f
      by_cases h1 : 1 ≤ m ∧ m ≤ 8
      · have em : impl_isMend.f m = some true := by
          unfold impl_isMend.f
          simp only [ge_iff_le]
          repeat (first | rw [if_pos (by omega)] | rw [decide_eq_true (by omega)])
        have e2 : wrap64 (2 * m) = 2 * m := w64 (by omega) (by omega)
        have e3 : wrap64 (255 - 2 * m) = 255 - 2 * m := w64 (by omega) (by omega)
        refine Ev.bind0 em (Ev.pos rfl ?_)
        rw [e2, e3]
        by_cases h2 : (l.length : Int) < 1
        · exact Ev.pos h2 (Ev.fin (fun f => by rw [impl_RsCode.j0, if_pos rfl]))
        · rw [decide_eq_true (by omega)]
          exact Ev.neg h2 (Ev.fin (fun f => by rw [impl_RsCode.j0, if_pos rfl]))
      · have em : impl_isMend.f m = some false := by
          unfold impl_isMend.f
          by_cases h3 : m ≥ 1
          · rw [if_pos h3, decide_eq_false (by omega)]
          · rw [if_neg h3]
        exact Ev.bind0 em (Ev.neg (by simp) (Ev.fin (fun f => by rw [impl_RsCode.j0, if_pos rfl])))
theorem RsCode_both (l : List Int) (m : Int) (hl : l.length ≤ 1048576) (hb : Bytes l) (hm : (Lit.int .i64 m).wf = true) : ∃ (r : List Int) (ok : Bool), Ev (fun k => spec_RsCode.f k l m) (r, ok) ∧ Ev (fun k => impl_RsCode.f k l m) (r, ok) ∧ r.length ≤ 17592186044416 := by
  obtain ⟨r, ok, h1, h2, h3, _⟩ := RsCode_more l hl hb m hm
  exact ⟨r, ok, h1, h2, h3⟩
theorem iRsCode_yes (l : List Int) (hb : Bytes l) (n : Nat) (hn : 1 ≤ n ∧ n ≤ 8) (h1 : 1 ≤ l.length) (h2 : l.length + 2 * n ≤ 255) : Ev (fun k => impl_RsCode.f k l (n : Int)) (rsN l n, true) := by
  have e2 : wrap64 (2 * (n : Int)) = ((2 * n : Nat) : Int) := by rw [w64 (by omega) (by omega)]; omega
  have e3 : wrap64 (255 - ((2 * n : Nat) : Int)) = 255 - ((2 * n : Nat) : Int) := w64 (by omega) (by omega)
  unfold impl_RsCode.f
  have em : impl_isMend.f (n : Int) = some true := by
    unfold impl_isMend.f
    simp only [ge_iff_le]
    repeat (first | rw [if_pos (by omega)] | rw [decide_eq_true (by omega)])
  refine Ev.bind0 em (Ev.pos rfl (Ev.neg (by omega) ?_))
  rw [e2, e3, decide_eq_false (by omega)]
  refine Ev.step (fun f => by rw [impl_RsCode.j0, if_neg (by decide), e2]; rfl) (iRs_l0 l hb n (by omega) (by omega) (2 * n) 0 (by omega))
theorem rsN_len (l : List Int) (n : Nat) : (rsN l n).length = l.length + 2 * n := by unfold rsN; rw [List.length_append, vec_len]
theorem vecB (L : Nat) (r : Nat → Nat) (h : ∀ p, r p < 256) : Bytes (vec L r) := by
  intro x hx
  unfold vec at hx
  obtain ⟨p, _, rfl⟩ := List.mem_map.1 hx
  exact byte_wf ⟨Int.natCast_nonneg _, by have := h p; omega⟩
theorem rsN_bytes (l : List Int) (hb : Bytes l) (n : Nat) : Bytes (rsN l n) := by
  intro x hx
  unfold rsN at hx
  rcases List.mem_append.1 hx with h | h
  · exact hb x h
  · exact vecB _ _ (fun p => lfs_lt (tl_lt hb) _ p) x h
theorem rsN_at (l : List Int) (hb : Bytes l) (n p : Nat) : tl (rsN l n) p = if p < l.length then tl l p else if p < l.length + 2 * n then lfs (2 * n) (genN (2 * n)) (tl l) l.length (p - l.length) else 0 := by
  by_cases h : p < l.length
  · rw [if_pos h]
    unfold tl rsN rd
    rw [Int.toNat_natCast, List.getD_eq_getElem?_getD, List.getD_eq_getElem?_getD, List.getElem?_append_left h]
  · rw [if_neg h]
    by_cases h2 : p < l.length + 2 * n
    · rw [if_pos h2]
      have e : rd (rsN l n) (p : Int) = rd (vec (2 * n) (lfs (2 * n) (genN (2 * n)) (tl l) l.length)) ((p - l.length : Nat) : Int) := by
        unfold rsN rd
        rw [Int.toNat_natCast, Int.toNat_natCast, List.getD_eq_getElem?_getD, List.getD_eq_getElem?_getD, List.getElem?_append_right (by omega)]
      unfold tl
      rw [e, rd_vec _ (by omega)]; rfl
    · rw [if_neg h2]
      exact tl_end (by rw [rsN_len]; omega)
/-! The generator's roots. -/
def genF (j p : Nat) : F := ⟨genN j p, genN_lt j p⟩
def genV (j : Nat) (X : F) : F := sm (j + 1) (fun p => genF j p * pw X (j - p))
theorem genV_step (j : Nat) (X : F) : genV (j + 1) X = (X + pw al j) * genV j X := by
  have h1 : genV (j + 1) X = sm (j + 2) (fun p => (if p ≤ j then genF j p * pw X (j + 1 - p) else 0) + (if 1 ≤ p then pw al j * (genF j (p - 1) * pw X (j + 1 - p)) else 0)) := by
    unfold genV
    refine sm_congr _ fun p hp => ?_
    by_cases h : 1 ≤ p ∧ p ≤ j + 1
    · have e : genF (j + 1) p = genF j p + genF j (p - 1) * pw al j := by
        refine F.ext ?_
        show genN (j + 1) p = genN j p ^^^ gm (genN j (p - 1)) (pw al j).v
        rw [← pwN_v]
        show (if 1 ≤ p ∧ p ≤ j + 1 then _ else _) = _
        rw [if_pos h]
      have e2 : p - 1 ≤ j := by omega
      rw [e, if_pos h.1, F.add_mul]
      by_cases h3 : p ≤ j
      · rw [if_pos h3]
        congr 1
        rw [F.mul_comm (genF j (p - 1)), F.mul_assoc]
      · have e4 : genF j p = 0 := F.ext (genN_end j p (by omega))
        rw [if_neg h3, e4, F.zero_mul, F.mul_comm (genF j (p - 1)), F.mul_assoc]
    · have h0 : p = 0 := by omega
      subst h0
      rw [if_pos (Nat.zero_le _), if_neg (by omega), F.add_zero]
      congr 1
  rw [h1, sm_add, F.add_mul]
  congr 1
  · show sm (j + 1) (fun p => if p ≤ j then genF j p * pw X (j + 1 - p) else 0) + (if j + 1 ≤ j then genF j (j + 1) * pw X (j + 1 - (j + 1)) else 0) = _
    rw [if_neg (by omega), F.add_zero]
    unfold genV
    rw [← sm_mul]
    refine sm_congr _ fun p hp => ?_
    rw [if_pos (by omega), show j + 1 - p = j - p + 1 by omega]
    show genF j p * (X * pw X (j - p)) = _
    rw [F.mul_left_comm]
  · rw [sm_front, if_neg (by omega), F.zero_add]
    unfold genV
    rw [← sm_mul]
    refine sm_congr _ fun p hp => ?_
    rw [if_pos (by omega), show p + 1 - 1 = p by omega, show j + 1 - (p + 1) = j - p by omega]
theorem genV_root : ∀ j i, i < j → genV j (pw al i) = 0
  | 0, i, h => absurd h (Nat.not_lt_zero i)
  | j + 1, i, h => by
    rw [genV_step]
    by_cases e : i = j
    · rw [e, F.add_self, F.zero_mul]
    · rw [genV_root j i (by omega), F.mul_zero]
/-! Division keeps the value at the roots. -/
def dvF (T : Nat) (l : List Int) (hb : Bytes l) (i p : Nat) : F := ⟨dvs T (genN T) (tl l) i p, dvs_lt (genN_lt T) (tl_lt hb) i p⟩
theorem dvF_step (T : Nat) (l : List Int) (hb : Bytes l) (i p : Nat) : dvF T l hb (i + 1) p = dvF T l hb i p + if i ≤ p ∧ p < i + (T + 1) then genF T (p - i) * dvF T l hb i i else 0 := by
  by_cases h : i ≤ p ∧ p < i + (T + 1)
  · rw [if_pos h]
    refine F.ext ?_
    show (if i ≤ p ∧ p < i + (T + 1) then _ else _) = _
    rw [if_pos h]; rfl
  · rw [if_neg h, F.add_zero]
    refine F.ext ?_
    show (if i ≤ p ∧ p < i + (T + 1) then _ else _) = _
    rw [if_neg h]; rfl
theorem dvF_val (T : Nat) (l : List Int) (hb : Bytes l) {L : Nat} (hL : L = l.length + T) (X : F) (hX : genV T X = 0) : ∀ i, i ≤ l.length → sm L (fun p => dvF T l hb i p * pw X (L - 1 - p)) = sm L (fun p => dvF T l hb 0 p * pw X (L - 1 - p))
  | 0, _ => rfl
  | i + 1, hi => by
    rw [← dvF_val T l hb hL X hX i (by omega)]
    have e1 : sm L (fun p => dvF T l hb (i + 1) p * pw X (L - 1 - p)) = sm L (fun p => dvF T l hb i p * pw X (L - 1 - p)) + sm L (fun p => (if i ≤ p ∧ p < i + (T + 1) then genF T (p - i) * dvF T l hb i i else 0) * pw X (L - 1 - p)) := by
      rw [← sm_add]
      exact sm_congr _ fun p _ => by rw [dvF_step, F.add_mul]
    have e2 : sm L (fun p => (if i ≤ p ∧ p < i + (T + 1) then genF T (p - i) * dvF T l hb i i else 0) * pw X (L - 1 - p)) = 0 := by
      have eL : L = i + ((T + 1) + (l.length - 1 - i)) := by omega
      have e3 : ∀ q, q = L - 1 → sm (i + ((T + 1) + (l.length - 1 - i))) (fun p => (if i ≤ p ∧ p < i + (T + 1) then genF T (p - i) * dvF T l hb i i else 0) * pw X (q - p)) = 0 := by
        intro q hq
        rw [sm_split, sm_split, sm_zero' i (fun p hp => by rw [if_neg (by omega), F.zero_mul]), sm_zero' (l.length - 1 - i) (fun p hp => by rw [if_neg (by omega), F.zero_mul]), F.zero_add, F.add_zero]
        have e4 : sm (T + 1) (fun k => (if i ≤ i + k ∧ i + k < i + (T + 1) then genF T (i + k - i) * dvF T l hb i i else 0) * pw X (q - (i + k))) = genV T X * (dvF T l hb i i * pw X (l.length - 1 - i)) := by
          unfold genV
          rw [← sm_mul_right]
          refine sm_congr _ fun k hk => ?_
          rw [if_pos (by omega), show i + k - i = k by omega, show q - (i + k) = (T - k) + (l.length - 1 - i) by omega, pw_add]
          simp only [F.mul_assoc, F.mul_left_comm, F.mul_comm]
        rw [e4, hX, F.zero_mul]
      have e5 := e3 (L - 1) rfl
      rw [← eL] at e5
      exact e5
    rw [e1, e2, F.add_zero]
theorem dvF_low (T : Nat) (l : List Int) (hb : Bytes l) : ∀ i p, p < i → dvF T l hb i p = 0
  | 0, p, h => absurd h (Nat.not_lt_zero p)
  | i + 1, p, h => by
    rw [dvF_step]
    by_cases e : p = i
    · subst e
      have e0 : genF T (p - p) = 1 := by
        refine F.ext ?_
        show genN T (p - p) = 1
        rw [Nat.sub_self]
        have : ∀ j, genN j 0 = 1 := fun j => by
          induction j with
          | zero => rfl
          | succ j ih =>
            unfold genN
            rw [if_neg (by omega)]; exact ih
        exact this T
      rw [if_pos (by omega), e0, F.one_mul, F.add_self]
    · rw [if_neg (by omega), F.add_zero]
      exact dvF_low T l hb i p (by omega)
/-- The word that RsCode makes is clean. -/
theorem rsN_clean (l : List Int) (hb : Bytes l) (n : Nat) (hn : 1 ≤ n) : ∀ j, j < 2 * n → syn (rsN l n).length (wF (rsN l n)) j = 0 := by
  intro j hj
  have hL := rsN_len l n
  have e1 : syn (rsN l n).length (wF (rsN l n)) j = sm (rsN l n).length (fun p => dvF (2 * n) l hb 0 p * pw (pw al j) ((rsN l n).length - 1 - p)) + sm (rsN l n).length (fun p => dvF (2 * n) l hb l.length p * pw (pw al j) ((rsN l n).length - 1 - p)) := by
    rw [← sm_add]
    unfold syn xp
    refine sm_congr _ fun p hp => ?_
    rw [← F.add_mul, pw_mul, pw_mul, Nat.mul_comm j]
    congr 1
    refine F.ext ?_
    rw [wF_v (rsN_bytes l hb n), rsN_at l hb n p]
    show _ = tl l p ^^^ dvs (2 * n) (genN (2 * n)) (tl l) l.length p
    by_cases h : p < l.length
    · have e := congrArg F.v (dvF_low (2 * n) l hb l.length p h)
      have e : dvs (2 * n) (genN (2 * n)) (tl l) l.length p = 0 := e
      rw [if_pos h, e, Nat.xor_zero]
    · rw [if_neg h, if_pos (by omega), dvs_lfs (by omega) (genN_lt _) (tl_lt hb) l.length p (by omega), if_pos (by omega), tl_end (by omega), Nat.xor_zero, Nat.zero_xor]
  rw [e1, dvF_val (2 * n) l hb hL (pw al j) (genV_root (2 * n) j hj) l.length (Nat.le_refl _), F.add_self]
theorem l1New_l0 (l : List Int) (hl : l.length ≤ 1048576) : ∀ (d i : Nat) (h : Int), i + d = l.length → ∃ h', Ev (fun k => spec_l1New.l0 k l h (i : Int)) (l, 0, h') := by
  intro d
  induction d with
  | zero =>
    intro i h hd
    exact ⟨h, Ev.fin (fun k => by rw [spec_l1New.l0, if_neg (by omega)])⟩
  | succ d ih =>
    intro i h hd
    by_cases h4 : i < 4000
    · obtain ⟨h', e⟩ := ih (i + 1) _ (by omega)
      exact ⟨h', Ev.step (fun k => by rw [spec_l1New.l0, if_pos (by omega), if_pos (by omega), if_pos (by omega), wsucc (by omega)]) e⟩
    · exact ⟨h, Ev.fin (fun k => by rw [spec_l1New.l0, if_pos (by omega), if_neg (by omega)])⟩
theorem l1New_ex (l : List Int) (hl : l.length ≤ 1048576) (hw : Bytes l) : ∃ h, CurOk l 0 ∧ Ev (fun k => spec_l1New.f k l) (l, 0, h) := by
  obtain ⟨h, e⟩ := l1New_l0 l hl l.length 0 (wrap64 (71933 + (l.length : Int))) (by omega)
  exact ⟨h, ⟨by omega, by omega, hl, hw⟩, e⟩
theorem l1Byte_ex (s : List Int) (i h : Int) (hc : CurOk s i) : ∃ (x : Nat) (i' h' : Int), x < 256 ∧ CurOk s i' ∧ spec_l1Byte.f s i h = some ((x : Int), i', h') := by
  obtain ⟨h0, h1, h2, h3⟩ := hc
  unfold spec_l1Byte.f
  simp only [and64_255]
  by_cases hi : i < (s.length : Int)
  · rw [if_pos hi, if_pos h0]
    refine ⟨(wrap64 (bits .xor .i64 (wrap64 (wrap64 (h * 6364136223846793005) + 1442695040888963407) / 8589934592) (wrap64 (wrap64 (h * 6364136223846793005) + 1442695040888963407) / 35184372088832) % 256 + wrap64 (rd s i)) % 256).toNat, wrap64 (i + 1), wrap64 (wrap64 (h * 6364136223846793005) + 1442695040888963407), by omega, ⟨?_, ?_, h2, h3⟩, ?_⟩
    · rw [w64 (by omega) (by omega)]; omega
    · rw [w64 (by omega) (by omega)]; omega
    · rw [Int.toNat_of_nonneg (by omega)]
  · rw [if_neg hi]
    refine ⟨(bits .xor .i64 (wrap64 (wrap64 (h * 6364136223846793005) + 1442695040888963407) / 8589934592) (wrap64 (wrap64 (h * 6364136223846793005) + 1442695040888963407) / 35184372088832) % 256).toNat, i, wrap64 (wrap64 (h * 6364136223846793005) + 1442695040888963407), by omega, ⟨h0, h1, h2, h3⟩, ?_⟩
    rw [Int.toNat_of_nonneg (by omega)]
theorem l1Below_ex (s : List Int) (i h n : Int) (hc : CurOk s i) : ∃ (x : Nat) (i' h' : Int), ((x : Int) < n ∨ n ≤ 0 ∧ x = 0) ∧ CurOk s i' ∧ spec_l1Below.f s i h n = some ((x : Int), i', h') := by
  unfold spec_l1Below.f
  by_cases hn : n ≤ 0
  · exact ⟨0, i, h, .inr ⟨hn, rfl⟩, hc, by rw [if_pos hn]; rfl⟩
  rw [if_neg hn]
  obtain ⟨x, i1, h1, hx, c1, e1⟩ := l1Byte_ex s i h hc
  by_cases hn2 : n ≤ 256
  · rw [if_pos hn2, e1, Option.bind_some, if_neg (by omega)]
    have := Int.emod_lt_of_pos (x : Int) (show 0 < n by omega)
    have := Int.emod_nonneg (x : Int) (show n ≠ 0 by omega)
    refine ⟨((x : Int) % n).toNat, i1, h1, .inl (by omega), c1, ?_⟩
    rw [Int.tmod_eq_emod_of_nonneg (by omega), Int.toNat_of_nonneg (by omega)]
  · rw [if_neg hn2]
    obtain ⟨y, i2, h2, hy, c2, e2⟩ := l1Byte_ex s i1 h1 c1
    obtain ⟨z, i3, h3, hz, c3, e3⟩ := l1Byte_ex s i2 h2 c2
    obtain ⟨w, i4, h4, hw, c4, e4⟩ := l1Byte_ex s i3 h3 c3
    simp only [e1, e2, e3, e4, Option.bind_some]
    rw [if_neg (by omega), w64 (n := (x : Int) * 16777216) (by omega) (by omega), w64 (n := (y : Int) * 65536) (by omega) (by omega), w64 (n := (z : Int) * 256) (by omega) (by omega)]
    rw [w64 (n := (x : Int) * 16777216 + (y : Int) * 65536) (by omega) (by omega), w64 (n := (x : Int) * 16777216 + (y : Int) * 65536 + (z : Int) * 256) (by omega) (by omega), w64 (by omega) (by omega)]
    generalize hv : (x : Int) * 16777216 + (y : Int) * 65536 + (z : Int) * 256 + (w : Int) = v
    have hv0 : 0 ≤ v := by omega
    have := Int.emod_lt_of_pos v (show 0 < n by omega)
    have := Int.emod_nonneg v (show n ≠ 0 by omega)
    refine ⟨(v % n).toNat, i4, h4, .inl (by omega), c4, ?_⟩
    rw [Int.tmod_eq_emod_of_nonneg hv0, Int.toNat_of_nonneg (by omega)]
theorem l1Once_ex (s : List Int) (i h n : Int) (hc : CurOk s i) : ∃ (b : Bool) (i' h' : Int), CurOk s i' ∧ spec_l1Once.f s i h n = some (b, i', h') := by
  obtain ⟨x, i1, h1, _, c1, e1⟩ := l1Below_ex s i h n hc
  refine ⟨((x : Int) == 0), i1, h1, c1, ?_⟩
  unfold spec_l1Once.f
  rw [e1, Option.bind_some]
theorem l1Size_ex (l : List Int) (hl : l.length ≤ 1048576) (m : Int) (hm : 2 ≤ m) : ∃ t : Nat, 2 ≤ t ∧ (t : Int) ≤ m ∧ spec_l1Size.f l m = some (t : Int) := by
  unfold spec_l1Size.f
  rw [w64 (n := (l.length : Int) / 20) (by omega) (by omega), w64 (by omega) (by omega)]
  by_cases h : 2 + (l.length : Int) / 20 > m
  · exact ⟨m.toNat, by omega, by omega, by rw [if_pos h, Int.toNat_of_nonneg (by omega)]⟩
  · exact ⟨2 + l.length / 20, by omega, by omega, by rw [if_neg h]; congr 1⟩
theorem l1PickInt_ex (s : List Int) (i h : Int) (l : List Int) (hl : l.length ≠ 0) (hc : CurOk s i) : ∃ (x : Int) (i' h' : Int), x ∈ l ∧ CurOk s i' ∧ spec_l1PickInt.f s i h l = some (x, i', h') := by
  obtain ⟨x, i1, h1, hx, c1, e1⟩ := l1Below_ex s i h (l.length : Int) hc
  have hlt : x < l.length := by omega
  refine ⟨rd l (x : Int), i1, h1, rd_mem hlt, c1, ?_⟩
  unfold spec_l1PickInt.f
  rw [e1, Option.bind_some, if_pos (by omega), if_pos (by omega)]
theorem l14DrawBytes_l0 (n : Nat) (hn : n ≤ 1048576) (s : List Int) : ∀ (d j : Nat) (acc : List Int) (i h : Int), j + d = n → acc.length = j → Bytes acc → CurOk s i →
    ∃ r i' h', r.length = n ∧ Bytes r ∧ CurOk s i' ∧ Ev (fun k => spec_l14DrawBytes.l0 k (n : Int) acc (j : Int) s i h) (r, i', h') := by
  intro d
  induction d with
  | zero =>
    intro j acc i h hd ha hb hc
    exact ⟨acc, i, h, by omega, hb, hc, Ev.fin (fun k => by rw [spec_l14DrawBytes.l0, if_neg (by omega)])⟩
  | succ d ih =>
    intro j acc i h hd ha hb hc
    obtain ⟨x, i1, h1, hx, c1, e1⟩ := l1Byte_ex s i h hc
    obtain ⟨r, i2, h2, p1, p2, p3, e⟩ := ih (j + 1) (acc ++ [(x : Int) % 256]) i1 h1 (by omega) (by simp; omega) (hb.snoc (by omega)) c1
    refine ⟨r, i2, h2, p1, p2, p3, Ev.step (fun k => ?_) e⟩
    rw [spec_l14DrawBytes.l0, if_pos (by omega), e1, Option.bind_some, if_pos (by omega), wsucc (by omega)]
theorem l14DrawBytes_ex (s : List Int) (i h : Int) (n : Nat) (hn : n ≤ 1048576) (hc : CurOk s i) :
    ∃ r i' h', r.length = n ∧ Bytes r ∧ CurOk s i' ∧ Ev (fun k => spec_l14DrawBytes.f k s i h (n : Int)) (r, i', h') :=
  l14DrawBytes_l0 n hn s n 0 [] i h (by omega) rfl Bytes.nil hc
theorem l14DrawMend_ex (s : List Int) (i h : Int) (hc : CurOk s i) : ∃ (m : Nat) (i' h' : Int), m ≤ 9 ∧ CurOk s i' ∧ spec_l14DrawMend.f s i h = some ((m : Int), i', h') := by
  obtain ⟨x, i1, h1, hx, c1, e1⟩ := l1PickInt_ex s i h [1, 2, 3, 4, 1, 2, 8, 9, 0] (by decide) hc
  have hx2 : 0 ≤ x ∧ x ≤ 9 := by
    simp only [List.mem_cons, List.not_mem_nil, or_false] at hx
    omega
  refine ⟨x.toNat, i1, h1, by omega, c1, ?_⟩
  unfold spec_l14DrawMend.f
  rw [e1, Option.bind_some, Int.toNat_of_nonneg hx2.1]
theorem set_bytes {l : List Int} (hb : Bytes l) (q : Nat) {x : Int} (hx : 0 ≤ x ∧ x ≤ 255) : Bytes (l.set q x) := by
  intro y hy
  rcases List.mem_or_eq_of_mem_set hy with h | h
  · exact hb y h
  · rw [h]; exact byte_wf hx
theorem l14DrawWord_l0 (s : List Int) (m : Int) : ∀ (d : Nat) (w : List Int) (i h : Int), w.length ≠ 0 → w.length ≤ 1048576 → d ≤ 1000 → Bytes w → CurOk s i → ∃ r i' h', r.length = w.length ∧ Bytes r ∧ CurOk s i' ∧ Ev (fun k => spec_l14DrawWord.l0 k m w (d : Int) s i h) (r, m, i', h') := by
  intro d
  induction d with
  | zero =>
    intro w i h hw hw2 hd hb hc
    exact ⟨w, i, h, rfl, hb, hc, Ev.fin (fun k => by rw [spec_l14DrawWord.l0, if_neg (by omega)])⟩
  | succ d ih =>
    intro w i h hw hw2 hd hb hc
    obtain ⟨x, i1, h1, hx, c1, e1⟩ := l1Below_ex s i h (w.length : Int) hc
    obtain ⟨y, i2, h2, hy, c2, e2⟩ := l1Byte_ex s i1 h1 c1
    obtain ⟨r, i3, h3, a1, a2, a3, a4⟩ := ih (w.set x ((y : Int) % 256)) i2 h2 (by rw [List.length_set]; exact hw) (by rw [List.length_set]; exact hw2) (by omega) (set_bytes hb x (by omega)) c2
    refine ⟨r, i3, h3, by rw [a1, List.length_set], a2, a3, Ev.step (fun k => ?_) a4⟩
    have e3 : wrap64 (((d + 1 : Nat) : Int) - 1) = (d : Int) := by rw [w64 (by omega) (by omega)]; omega
    rw [spec_l14DrawWord.l0, if_pos (by omega), e1, Option.bind_some, e2, Option.bind_some, if_pos (by omega), if_pos (by omega), e3, Int.toNat_natCast]
theorem wf9 {m : Nat} (h : m ≤ 9) : (Lit.int .i64 (m : Int)).wf = true := by
  have t : (List.range 10).all (fun m => (Lit.int .i64 (m : Int)).wf) = true := by decide +kernel
  exact List.all_eq_true.mp t m (List.mem_range.mpr (by omega))
theorem DrawRsMend_ex (l : List Int) (hl : l.length ≤ 1048576) (hb : Bytes l) : ∃ (w : List Int) (m : Nat), m ≤ 9 ∧ w.length ≤ 1048576 ∧ Bytes w ∧ Ev (fun k => spec_DrawRsMend.f k l) (w, (m : Int)) := by
  obtain ⟨h, c0, e0⟩ := l1New_ex l hl hb
  obtain ⟨m, i1, h1, hm, c1, e1⟩ := l14DrawMend_ex l 0 h c0
  obtain ⟨b, i2, h2, c2, e2⟩ := l1Once_ex l i1 h1 8 c1
  have fin : ∀ w i' h', w.length ≤ 1048576 → Bytes w → Ev (fun k => spec_l14DrawWord.f k l 0 h l) (w, (m : Int), i', h') → ∃ (w : List Int) (m : Nat), m ≤ 9 ∧ w.length ≤ 1048576 ∧ Bytes w ∧ Ev (fun k => spec_DrawRsMend.f k l) (w, (m : Int)) := fun w i' h' hw hwb e => by
    refine ⟨w, m, hm, hw, hwb, ?_⟩
    unfold spec_DrawRsMend.f
    exact Ev.bind e0 (Ev.bind e (Ev.now _))
  have start : ∀ r, Ev (fun k => if b = true then ((spec_l1Below.f l i2 h2 30).bind fun bt480 => ((spec_l14DrawBytes.f k l bt480.2.1 bt480.2.2 bt480.1).bind fun bt483 => (some (bt483.1, (m : Int), bt483.2.1, bt483.2.2)))) else ((spec_l1Size.f l 16).bind fun t488 => ((spec_l1Below.f l i2 h2 t488).bind fun bt489 => ((spec_l14DrawBytes.f k l bt489.2.1 bt489.2.2 (wrap64 (1 + bt489.1))).bind fun bt492 => ((spec_RsCode.f k bt492.1 (m : Int)).bind fun bt497 => (if bt497.2 = true then ((spec_l1Below.f l bt492.2.1 bt492.2.2 (wrap64 ((m : Int) + 2))).bind fun bt504 => (spec_l14DrawWord.l0 k (m : Int) bt497.1 bt504.1 l bt504.2.1 bt504.2.2)) else (some ((([1, 2, 3] : List Int)), (m : Int), bt492.2.1, bt492.2.2)))))))) r → Ev (fun k => spec_l14DrawWord.f k l 0 h l) r := fun r hr => by
    unfold spec_l14DrawWord.f
    exact Ev.bind0 e1 (Ev.bind0 e2 hr)
  cases b with
  | true =>
    obtain ⟨x, i3, h3, hx, c3, e3⟩ := l1Below_ex l i2 h2 30 c2
    obtain ⟨w, i4, h4, a1, a2, a3, a4⟩ := l14DrawBytes_ex l i3 h3 x (by omega) c3
    exact fin w i4 h4 (by omega) a2 (start _ (Ev.pos rfl (Ev.bind0 e3 (Ev.bind a4 (Ev.now _)))))
  | false =>
    obtain ⟨t, ht, ht2, et⟩ := l1Size_ex l hl 16 (by omega)
    obtain ⟨x, i3, h3, hx, c3, e3⟩ := l1Below_ex l i2 h2 (t : Int) c2
    obtain ⟨w, i4, h4, a1, a2, a3, a4⟩ := l14DrawBytes_ex l i3 h3 (1 + x) (by omega) c3
    have ex : wrap64 (1 + (x : Int)) = ((1 + x : Nat) : Int) := by rw [w64 (by omega) (by omega)]; omega
    obtain ⟨r, ok, b1, _, _, b2⟩ := RsCode_more w (by omega) a2 (m : Int) (wf9 hm)
    cases ok with
    | true =>
      obtain ⟨n, hn, n1, n2, n3, n4, rfl⟩ := b2 rfl
      obtain ⟨y, i5, h5, hy, c5, e5⟩ := l1Below_ex l i4 h4 (wrap64 ((m : Int) + 2)) a3
      have em : wrap64 ((m : Int) + 2) = (m : Int) + 2 := w64 (by omega) (by omega)
      rw [em] at hy
      obtain ⟨r, i6, h6, d1, d2, d3, d4⟩ := l14DrawWord_l0 l (m : Int) y (rsN w n) i5 h5 (by rw [rsN_len]; omega) (by rw [rsN_len]; omega) (by omega) (rsN_bytes w a2 n) c5
      refine fin r i6 h6 (by rw [d1, rsN_len]; omega) d2 (start _ (Ev.neg (fun e => Bool.false_ne_true e) (Ev.bind0 et (Ev.bind0 e3 ?_))))
      rw [ex]
      exact Ev.bind a4 (Ev.bind b1 (Ev.pos rfl (Ev.bind0 e5 d4)))
    | false =>
      refine fin [1, 2, 3] i4 h4 (by decide) (by intro x hx; exact byte_wf (by simp only [List.mem_cons, List.not_mem_nil, or_false] at hx; omega)) (start _ (Ev.neg (fun e => Bool.false_ne_true e) (Ev.bind0 et (Ev.bind0 e3 ?_))))
      rw [ex]
      exact Ev.bind a4 (Ev.bind b1 (Ev.neg (fun e => Bool.false_ne_true e) (Ev.now _)))

theorem Nearest_l0 (l : List Int) (hb : Bytes l) (m : Nat) (hm : 1 ≤ m ∧ m ≤ 8) (hwf : (Lit.int .i64 (m : Int)).wf = true) (hN : 2 * m < l.length ∧ l.length ≤ 255) (u : Nat → F) (hu : near l.length m (wF l) u) : ∀ d p, p + d = l.length → Ev (fun k => laws_FnNearestWord.l0 k l (m : Int) (vec l.length fun i => (u i).v) ((dist l.length (wF l) u : Nat) : Int) ((dist p (wF l) u : Nat) : Int) (p : Int)) true := by
  intro d
  induction d with
  | zero =>
    intro p hd
    obtain rfl : p = l.length := by omega
    have hw : wordB l (m : Int) = true := by unfold wordB; rw [decide_eq_true_eq]; omega
    have hc : rsOkM (vec l.length fun i => (u i).v) (m : Int) = true := by
      unfold rsOkM
      rw [wordB_vec _ hw, Int.toNat_natCast, (clean_syn _ (vec_bytes _ _) (2 * m) 0).2 (fun i _ hi => by
        rw [vec_len, syn_eq l.length (fun p hp => vec_wF u hp) i]
        exact hu.1 i (by omega))]
      rfl
    have h2 := hu.2
    refine Ev.step (fun k => by rw [laws_FnNearestWord.l0, if_neg (by omega)]) (Ev.step (fun k => by rw [laws_FnNearestWord.j1, if_neg (by decide), if_pos (by rw [vec_len]), if_pos rfl, if_pos (by omega)]) ?_)
    have h := iRsOk_ev (vec l.length fun i => (u i).v) (m : Int) (by rw [vec_len]; omega) (vec_bytes _ _) hwf
    rw [hc] at h
    exact Ev.bind h (Ev.now _)
  | succ d ih =>
    intro p hd
    have hp : p < l.length := by omega
    have hl := pl_len_le (df (wF l) u) p
    have h := ih (p + 1) (by omega)
    have hd2 : dist p (wF l) u ≤ p := hl
    refine Ev.step (fun k => by rw [laws_FnNearestWord.l0, if_pos (by omega), decide_eq_true (by rw [vec_len]; omega)]) (Ev.step (fun k => ?_) h)
    rw [laws_FnNearestWord.j1, if_pos rfl, if_pos (by omega), if_pos (by rw [vec_len]; omega), if_pos (by omega), rd_vec _ hp, wF_rd hb hp, dist_succ, wsucc (i := p) (by omega)]
    by_cases e : wF l p = u p
    · rw [if_pos (by rw [e]), if_pos e]; rfl
    · rw [if_neg (fun h => e (F.ext (by omega))), if_neg e, wsucc (by omega)]
theorem FnNearestWord : laws_FnNearestWord.Pure := by
  intro c _ _ hw
  refine Ev.rounds ?_
  unfold laws_FnNearestWord.f
  refine Ev.bind0 rfl ?_
  by_cases hg : (c.length : Int) > 1048576
  · exact Ev.pos (decide_eq_true hg) (Ev.now true)
  refine Ev.neg (by rw [decide_eq_true_eq]; exact hg) ?_
  obtain ⟨w, m, hm, hwl, hwb, eD⟩ := DrawRsMend_ex c (by omega) hw
  obtain ⟨r, d, ok, hS, hI, _, hr⟩ := RsMend_more w (m : Int) hwl hwb (wf9 hm)
  refine Ev.bind eD (Ev.bind hI (Ev.bind hS (Ev.neg (by simp) ?_)))
  rcases hr with ⟨rfl, rfl, rfl⟩ | ⟨M, u, rfl, hM, m1, m2, m3, m4, hu, rfl, rfl⟩
  · have h1 := iRsCode_yes [1] (by intro x hx; exact byte_wf (by simp only [List.mem_cons, List.not_mem_nil, or_false] at hx; omega)) 1 (by omega) (by decide) (by decide)
    exact Ev.neg (fun e => Bool.false_ne_true e) (Ev.bind h1 (Ev.pos rfl (Ev.now _)))
  · obtain rfl : m = M := by omega
    exact Ev.pos rfl (Nearest_l0 w hwb m ⟨m1, m2⟩ (wf9 hm) ⟨m3, m4⟩ u hu w.length 0 (by omega))

end Go.Proofs.Ytdcjfcfiflpblaa.Pure
