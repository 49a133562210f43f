/- The clean word near a word: there is at most one; its faults' places are the roots of the register's polynomial and of the solution of the first sums' equations. No condition. -/
import Derived.Test.YtdcjfcfiflpblaaMtx
set_option linter.unusedSimpArgs false
namespace Go.Proofs.Ytdcjfcfiflpblaa.Nr
open Go.RowKit Go.Proofs.YtdcjfcfiflpblaaW.PrintWords Go.Proofs.Ytdcjfcfiflpblaa.Com Go.Proofs.Ytdcjfcfiflpblaa.Vec Go.Proofs.Ytdcjfcfiflpblaa.Fd Go.Proofs.Ytdcjfcfiflpblaa.Fd.F Go.Proofs.Ytdcjfcfiflpblaa.Bm Go.Proofs.Ytdcjfcfiflpblaa.Gj Go.Proofs.Ytdcjfcfiflpblaa.Gf Go.Proofs.Ytdcjfcfiflpblaa.Mtx

def near (N m : Nat) (w u : Nat → F) : Prop := (∀ j, j < 2 * m → syn N u j = 0) ∧ dist N w u ≤ m
theorem dist_sym (n : Nat) (a b : Nat → F) : dist n a b = dist n b a := by
  induction n with
  | zero => rfl
  | succ n ih =>
    rw [dist_succ, dist_succ, ih]
    by_cases h : a n = b n
    · rw [if_pos h, if_pos h.symm]
    · rw [if_neg h, if_neg (fun e => h e.symm)]
theorem dist_eq (n : Nat) {w a b : Nat → F} (h : ∀ i, i < n → a i = b i) : dist n w a = dist n w b := by
  induction n with
  | zero => rfl
  | succ n ih => rw [dist_succ, dist_succ, ih (fun i hi => h i (by omega)), h n (by omega)]
theorem dist_0 (n : Nat) {w u : Nat → F} (h : dist n w u = 0) : ∀ i, i < n → w i = u i := by
  induction n with
  | zero => intro i hi; omega
  | succ n ih =>
    rw [dist_succ] at h
    have h2 : w n = u n := by
      by_cases e : w n = u n
      · exact e
      · rw [if_neg e] at h; omega
    intro i hi
    by_cases e : i = n
    · rw [e]; exact h2
    · exact ih (by omega) i (by omega)
theorem dist_self (n : Nat) (w : Nat → F) : dist n w w = 0 := by
  induction n with
  | zero => rfl
  | succ n ih => rw [dist_succ, ih, if_pos rfl]
theorem near_uniq {N m : Nat} (hN : N ≤ 255) {w u u' : Nat → F} (h : near N m w u) (h' : near N m w u') : ∀ i, i < N → u i = u' i :=
  uniq (t := 2 * m) hN h.1 h'.1 (by have := dist_tri w u u' N; have := h.2; have := h'.2; omega)
theorem syn_eq (N : Nat) {u u' : Nat → F} (h : ∀ i, i < N → u i = u' i) (j : Nat) : syn N u j = syn N u' j := sm_congr _ fun i hi => by rw [h i hi]
theorem dist_one {a b : Nat → F} (q : Nat) (h : ∀ p, p ≠ q → a p = b p) : ∀ n, dist n a b ≤ if q < n then 1 else 0
  | 0 => Nat.zero_le _
  | n + 1 => by
    have ih := dist_one q h n
    rw [dist_succ]
    by_cases e : n = q
    · subst e
      rw [if_neg (Nat.lt_irrefl n)] at ih
      rw [if_pos (Nat.lt_succ_self n)]
      split <;> omega
    · rw [if_pos (h n e)]
      by_cases e2 : q < n
      · rw [if_pos e2] at ih; rw [if_pos (by omega)]; omega
      · rw [if_neg e2] at ih; omega
theorem dist_addAt (N : Nat) (w : Nat → F) (g : Nat → Nat) (s : Nat → F) : ∀ n, dist N w (addAt w g s n) ≤ n
  | 0 => by show dist N w w ≤ 0; rw [dist_self]; exact Nat.le_refl 0
  | n + 1 => by
    have ih := dist_addAt N w g s n
    have h1 := dist_one (a := addAt w g s n) (b := addAt w g s (n + 1)) (g n) (fun p hp => by
      show _ = (if p = g n then _ else _)
      rw [if_neg hp]) N
    have h2 := dist_tri (addAt w g s n) w (addAt w g s (n + 1)) N
    rw [dist_sym N (addAt w g s n) w] at h2
    have h3 : (if g n < N then 1 else 0) ≤ 1 := by split <;> omega
    omega
/-- The places at which a near word differs, their numbers, and what is added there. -/
def gs (N : Nat) (w u : Nat → F) (l : Nat) : Nat := (pl (df w u) N).getD l 0
def ys (N : Nat) (w u : Nat → F) (l : Nat) : F := w (gs N w u l) + u (gs N w u l)
theorem gs_lt {N : Nat} {w u : Nat → F} {l : Nat} (h : l < dist N w u) : gs N w u l < N := (pl_lt _ N _ (getD_mem h)).1
theorem gs_inc {N : Nat} {w u : Nat → F} : ∀ i j, i < j → j < dist N w u → gs N w u i < gs N w u j := pl_inc (df w u) N
theorem ys_ne {N : Nat} {w u : Nat → F} {l : Nat} (h : l < dist N w u) : ys N w u l ≠ 0 := by
  have h1 := (pl_lt (df w u) N _ (getD_mem h)).2
  have h2 : w (gs N w u l) ≠ u (gs N w u l) := of_decide_eq_true h1
  exact fun e => h2 (eq_of_add e)
theorem syn_near {N m : Nat} {w u : Nat → F} (h : near N m w u) {j : Nat} (hj : j < 2 * m) : syn N w j = sy (dist N w u) (fun l => xp N (gs N w u l)) (ys N w u) j := syn_df (h.1 j hj)
theorem xs_ne {N : Nat} (hN : N ≤ 255) {w u : Nat → F} : ∀ i j, i < j → j < dist N w u → xp N (gs N w u i) ≠ xp N (gs N w u j) := fun i j h hj => xp_diff hN (gs_inc i j h hj) (gs_lt hj)
/-- Which places are faults: those whose number is one of the faults'. -/
theorem df_xs {N : Nat} (hN : N ≤ 255) {w u : Nat → F} {p : Nat} (hp : p < N) : df w u p = true ↔ ∃ l, l < dist N w u ∧ xp N p = xp N (gs N w u l) := by
  constructor
  · intro h
    obtain ⟨l, hl, e⟩ := List.mem_iff_getElem.1 (pl_mem (df w u) N p hp h)
    refine ⟨l, hl, ?_⟩
    have : gs N w u l = p := by
      unfold gs
      rw [List.getD_eq_getElem?_getD, List.getElem?_eq_getElem hl]
      exact e
    rw [this]
  · rintro ⟨l, hl, e⟩
    have h1 := gs_lt (w := w) (u := u) hl
    have : p = gs N w u l := by
      rcases Nat.lt_trichotomy p (gs N w u l) with h | h | h
      · exact absurd e (xp_diff hN h h1)
      · exact h
      · exact absurd e.symm (xp_diff hN h hp)
    rw [this]
    exact (pl_lt (df w u) N _ (getD_mem hl)).2
/-- The faults are a solution of the places' equations. -/
theorem sol_near {N m : Nat} {w u : Nat → F} (h : near N m w u) : ker (2 * m) (dist N w u) (sysM N (dist N w u) (gs N w u) (syn N w)) (fun t => if t < dist N w u then ys N w u t else 1) := by
  intro j hj
  rw [lin_sys, if_neg (Nat.lt_irrefl _), F.mul_one, syn_near h hj]
  have e : sm (dist N w u) (fun t => (if t < dist N w u then ys N w u t else 1) * pw (xp N (gs N w u t)) j) = sy (dist N w u) (fun l => xp N (gs N w u l)) (ys N w u) j := sm_congr _ fun t ht => by rw [if_pos ht]
  rw [e, F.add_self]
/-- A clean word put together is near. -/
theorem near_put {N m n : Nat} {w : Nat → F} {g : Nat → Nat} {s : Nat → F} (hn : n ≤ m) (hg : ∀ t, t < n → g t < N) (hk : ker (2 * m) n (sysM N n g (syn N w)) (fun t => if t < n then s t else 1)) : near N m w (addAt w g s n) := by
  refine ⟨fun j hj => ?_, Nat.le_trans (dist_addAt N w g s n) hn⟩
  have h := hk j hj
  rw [lin_sys, if_neg (Nat.lt_irrefl n), F.mul_one] at h
  rw [syn_addAt N w g s j n hg, F.add_comm, ← h]
  congr 1
  exact sm_congr _ fun t ht => by rw [if_pos ht]
/-- The first sums' equations. -/
def hkl (S : Nat → F) (i j : Nat) : F := S (i + j)
theorem lin_hkl {v n : Nat} {X Y S z : Nat → F} (i : Nat) (hS : ∀ j, j ≤ i + n → S j = sy v X Y j) : lin n (hkl S i) z = sm v (fun l => Y l * ev n z (X l) * pw (X l) i) := by
  unfold lin hkl
  have e1 : sm (n + 1) (fun j => S (i + j) * z j) = sm (n + 1) (fun j => sm v (fun l => Y l * pw (X l) (i + j) * z j)) := sm_congr _ fun j hj => by
    rw [hS (i + j) (by omega)]
    exact (sm_mul_right _ _ _).symm
  rw [e1, sm_swap]
  refine sm_congr _ fun l _ => ?_
  rw [ev_sm, ← sm_mul, ← sm_mul_right]
  refine sm_congr _ fun j _ => ?_
  rw [pw_add]
  simp only [F.mul_assoc, F.mul_left_comm, F.mul_comm]
theorem hkl_ker {v : Nat} {X Y S z : Nat → F} (hX : ∀ i j, i < j → j < v → X i ≠ X j) (hY : ∀ i, i < v → Y i ≠ 0) (hS : ∀ j, j < 2 * v → S j = sy v X Y j) : ker v v (hkl S) z ↔ ∀ l, l < v → ev v z (X l) = 0 := by
  constructor
  · intro h l hl
    have h1 := vdm v X (fun l => Y l * ev v z (X l)) hX (fun i hi => by
      have h2 := h i hi
      rw [lin_hkl i (fun j hj => hS j (by omega))] at h2
      exact h2) l hl
    exact (mul_eq_zero h1).resolve_left (hY l hl)
  · intro h i hi
    rw [lin_hkl i (fun j hj => hS j (by omega))]
    exact sm_zero' v fun l hl => by rw [h l hl, F.mul_zero, F.zero_mul]
theorem ev_low {v : Nat} {z : Nat → F} (h : z (v + 1) = 0) (x : F) : ev (v + 1) z x = ev v z x := ev_pad x v z h
/-- With z's last number 0 nothing but 0 is in the kernel. -/
theorem hkl_free {v : Nat} {X Y S z : Nat → F} (hX : ∀ i j, i < j → j < v → X i ≠ X j) (hY : ∀ i, i < v → Y i ≠ 0) (hS : ∀ j, j < 2 * v → S j = sy v X Y j) (hk : ker v v (hkl S) z) (h0 : z v = 0) : ∀ i, i < v → z i = 0 := by
  have h := (hkl_ker hX hY hS).1 hk
  cases v with
  | zero => intro i hi; omega
  | succ v =>
    intro i hi
    exact roots v z X (fun i j h1 h2 => hX i j h1 (by omega)) (fun l hl => by
      have := h l (by omega)
      rw [ev_low h0] at this
      exact this) i (by omega)
/-- A polynomial with a highest number 1 and these roots has no others. -/
theorem poly_only {v : Nat} {X z : Nat → F} (hX : ∀ i j, i < j → j < v → X i ≠ X j) (h1 : z v = 1) (h : ∀ l, l < v → ev v z (X l) = 0) {x : F} (hx : ev v z x = 0) : ∃ l, l < v ∧ x = X l := by
  refine Classical.byContradiction fun hn => ?_
  have hn : ∀ l, l < v → x ≠ X l := fun l hl e => hn ⟨l, hl, e⟩
  have := roots v z (fun i => if i < v then X i else x) (fun i j h1 h2 => by
    show (if i < v then X i else x) ≠ (if j < v then X j else x)
    rw [if_pos (by omega)]
    by_cases hj : j < v
    · rw [if_pos hj]; exact hX i j h1 hj
    · rw [if_neg hj]; exact fun e => hn i (by omega) e.symm) (fun l hl => by
    show ev v z (if l < v then X l else x) = 0
    by_cases hj : l < v
    · rw [if_pos hj]; exact h l hj
    · rw [if_neg hj]; exact hx) v (Nat.le_refl _)
  rw [h1] at this
  exact one_ne this
/-! ### Lists of places -/
def ints (l : List Nat) : List Int := vec l.length (fun t => l.getD t 0)
theorem ints_snoc (l : List Nat) (p : Nat) : ints l ++ [((p : Nat) : Int)] = ints (l ++ [p]) := by
  unfold ints
  rw [List.length_append, List.length_singleton, vec_snoc, getD_app_last, vec_congr (s := fun t => (l ++ [p]).getD t 0) fun t ht => (getD_app_left ht).symm]
theorem ints_len (l : List Nat) : (ints l).length = l.length := vec_len _ _
/-- A polynomial read from above: what stands when the numbers from i on have been read. -/
def hrn (c : Nat → F) (z : F) (t i : Nat) : F := sm (t - i) (fun j => c (i + j) * pw z j)
theorem hrn_end (c : Nat → F) (z : F) (t : Nat) : hrn c z t t = 0 := by unfold hrn; rw [Nat.sub_self]; rfl
theorem hrn_step (c : Nat → F) (z : F) {t i : Nat} (h : i < t) : hrn c z t (i + 1) * z + c i = hrn c z t i := by
  unfold hrn
  rw [show t - i = t - (i + 1) + 1 by omega, sm_front, ← sm_mul_right]
  show _ = c (i + 0) * 1 + _
  rw [F.mul_one, F.add_comm]
  congr 1
  refine sm_congr _ fun j _ => ?_
  rw [show i + 1 + j = i + (j + 1) by omega]
  show c (i + (j + 1)) * pw z j * z = c (i + (j + 1)) * (z * pw z j)
  rw [F.mul_assoc, F.mul_comm (pw z j)]
theorem hrn_ev (c : Nat → F) (z : F) (t : Nat) : hrn c z (t + 1) 0 = ev t c z := by
  unfold hrn
  rw [ev_sm]
  exact sm_congr _ fun j _ => by rw [Nat.zero_add]
/-- The register's polynomial at a number and at its inverse. -/
theorem crev_inv (c : Nat → F) (v : Nat) {x z : F} (h : x * z = 1) : crev c v x = pw x v * ev v c z := by
  rw [crev_sm, ev_sm, ← sm_mul]
  refine sm_congr _ fun i hi => ?_
  have e : pw x v = pw x (v - i) * pw x i := by rw [← pw_add, show v - i + i = v by omega]
  have e2 : pw x i * pw z i = 1 := by rw [← mul_pw, h, pw_one]
  calc c i * pw x (v - i) = c i * pw x (v - i) * (pw x i * pw z i) := by rw [e2, F.mul_one]
    _ = pw x v * (c i * pw z i) := by rw [e]; simp only [F.mul_assoc, F.mul_left_comm, F.mul_comm]
theorem xp_inv {N p : Nat} (hN : N ≤ 255) (hp : p < N) : xp N p * pw al (255 - (N - 1 - p)) = 1 := by
  unfold xp
  rw [← pw_add, show N - 1 - p + (255 - (N - 1 - p)) = 255 by omega]
  refine F.ext ?_
  rw [pw_al]; exact xtN_255
end Go.Proofs.Ytdcjfcfiflpblaa.Nr
