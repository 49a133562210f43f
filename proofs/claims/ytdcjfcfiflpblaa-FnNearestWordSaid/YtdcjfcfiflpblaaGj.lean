/- Places of a list, distance of two words, a code word within half the distance is the only one; elimination in a matrix over the field keeps the kernel. No condition. -/
import Derived.Test.YtdcjfcfiflpblaaBm
namespace Go.Proofs.Ytdcjfcfiflpblaa.Gj
open Go.Proofs.Ytdcjfcfiflpblaa.Fd Go.Proofs.Ytdcjfcfiflpblaa.Fd.F Go.Proofs.Ytdcjfcfiflpblaa.Bm Go.Proofs.Ytdcjfcfiflpblaa.Gf

/-! ### Places -/
/-- The places below n at which p says yes, in order. -/
def pl (p : Nat → Bool) : Nat → List Nat
  | 0 => []
  | n + 1 => if p n then pl p n ++ [n] else pl p n
theorem pl_lt (p : Nat → Bool) : ∀ n x, x ∈ pl p n → x < n ∧ p x = true
  | 0, _, h => by cases h
  | n + 1, x, h => by
    unfold pl at h
    split at h
    · rename_i hp
      rcases List.mem_append.1 h with h1 | h1
      · have := pl_lt p n x h1; exact ⟨by omega, this.2⟩
      · rw [List.mem_singleton] at h1; subst h1; exact ⟨by omega, hp⟩
    · have := pl_lt p n x h; exact ⟨by omega, this.2⟩
theorem pl_mem (p : Nat → Bool) : ∀ n x, x < n → p x = true → x ∈ pl p n
  | 0, _, h, _ => by omega
  | n + 1, x, h, hp => by
    unfold pl
    by_cases e : x = n
    · subst e; rw [if_pos hp]; exact List.mem_append_right _ (List.mem_singleton.2 rfl)
    · have h1 := pl_mem p n x (by omega) hp
      split
      · exact List.mem_append_left _ h1
      · exact h1
theorem pl_len_le (p : Nat → Bool) : ∀ n, (pl p n).length ≤ n
  | 0 => Nat.le_refl _
  | n + 1 => by
    unfold pl
    have := pl_len_le p n
    split
    · rw [List.length_append]; show _ + 1 ≤ _; omega
    · omega
theorem getD_mem {l : List Nat} {i : Nat} (h : i < l.length) : l.getD i 0 ∈ l := by
  rw [List.getD_eq_getElem?_getD, List.getElem?_eq_getElem h]; exact List.getElem_mem h
theorem getD_app_left {l : List Nat} {x i : Nat} (h : i < l.length) : (l ++ [x]).getD i 0 = l.getD i 0 := by
  rw [List.getD_eq_getElem?_getD, List.getD_eq_getElem?_getD, List.getElem?_append_left h]
theorem getD_app_last (l : List Nat) (x : Nat) : (l ++ [x]).getD l.length 0 = x := by
  rw [List.getD_eq_getElem?_getD, List.getElem?_append_right (Nat.le_refl _), Nat.sub_self]; rfl
theorem pl_inc (p : Nat → Bool) : ∀ n i j, i < j → j < (pl p n).length → (pl p n).getD i 0 < (pl p n).getD j 0
  | 0, _, _, _, h => by cases h
  | n + 1, i, j, hij, h => by
    unfold pl at h ⊢
    split at h
    · rename_i hp
      rw [if_pos hp]
      rw [List.length_append] at h
      have h' : j < (pl p n).length + 1 := h
      rw [getD_app_left (by omega)]
      by_cases e : j < (pl p n).length
      · rw [getD_app_left e]; exact pl_inc p n i j hij e
      · rw [show j = (pl p n).length by omega, getD_app_last]
        exact (pl_lt p n _ (getD_mem (by omega))).1
    · rename_i hp
      rw [if_neg hp]; exact pl_inc p n i j hij h
theorem pl_pos {p : Nat → Bool} {n : Nat} (h : p n = true) : pl p (n + 1) = pl p n ++ [n] := if_pos h
theorem pl_neg {p : Nat → Bool} {n : Nat} (h : ¬ p n = true) : pl p (n + 1) = pl p n := if_neg h
theorem pl_sum (p : Nat → Bool) (f : Nat → F) : ∀ n, sm n (fun i => if p i then f i else 0) = sm (pl p n).length (fun l => f ((pl p n).getD l 0))
  | 0 => rfl
  | n + 1 => by
    show sm n (fun i => if p i then f i else 0) + (if p n then f n else 0) = _
    rw [pl_sum p f n]
    by_cases h : p n = true
    · rw [if_pos h, pl_pos h, List.length_append]
      show sm (pl p n).length (fun l => f ((pl p n).getD l 0)) + f n = sm (pl p n).length (fun l => f ((pl p n ++ [n]).getD l 0)) + f ((pl p n ++ [n]).getD (pl p n).length 0)
      rw [getD_app_last]
      congr 1
      exact sm_congr _ fun i hi => by rw [getD_app_left hi]
    · rw [if_neg h, pl_neg h, F.add_zero]
theorem pl_congr {p q : Nat → Bool} : ∀ n, (∀ i, i < n → p i = q i) → pl p n = pl q n
  | 0, _ => rfl
  | n + 1, h => by
    unfold pl
    rw [h n (by omega), pl_congr n (fun i hi => h i (by omega))]

/-! ### Powers of 2 are different -/
def al : F := ⟨2, by omega⟩
def powL : Nat → Nat → List Nat
  | 0, _ => []
  | d + 1, a => a :: powL d (xt a)
def diffB : List Nat → Bool
  | [] => true
  | x :: t => t.all (fun y => y != x) && diffB t
theorem pow_tab : diffB (powL 255 1) = true := by decide +kernel
theorem xt_al (a : F) : (al * a).v = xt a.v := by
  rw [mul_v]; show gm 2 a.v = xt a.v
  exact xt_is a.h
theorem powL_get : ∀ (d : Nat) (a : F) (i : Nat), i < d → (powL d a.v)[i]? = some (a * pw al i).v
  | 0, _, _, h => by omega
  | d + 1, a, 0, _ => by show some a.v = some (a * 1).v; rw [F.mul_one]
  | d + 1, a, i + 1, h => by
    have ih := powL_get d (al * a) i (by omega)
    rw [xt_al] at ih
    show (powL d (xt a.v))[i]? = some (a * (al * pw al i)).v
    rw [ih, F.mul_left_comm, ← F.mul_assoc]
theorem diff_get : ∀ (l : List Nat), diffB l = true → ∀ i j, i < j → j < l.length → l[i]? ≠ l[j]?
  | [], _, _, _, _, h => by cases h
  | x :: t, hd, i, j, hij, hj => by
    simp only [diffB, Bool.and_eq_true] at hd
    obtain ⟨j, rfl⟩ : ∃ k, j = k + 1 := ⟨j - 1, by omega⟩
    have hj' : j < t.length := by rw [List.length_cons] at hj; omega
    cases i with
    | zero =>
      show some x ≠ t[j]?
      rw [List.getElem?_eq_getElem hj']
      intro e
      have h1 := List.all_eq_true.1 hd.1 _ (List.getElem_mem hj')
      rw [← Option.some.inj e] at h1
      simp at h1
    | succ i => exact diff_get t hd.2 i j (by omega) hj'
theorem powL_len : ∀ d a, (powL d a).length = d
  | 0, _ => rfl
  | d + 1, a => by show (powL d (xt a)).length + 1 = d + 1; rw [powL_len d]
theorem al_diff {i j : Nat} (h : i < j) (hj : j < 255) : pw al i ≠ pw al j := by
  intro e
  have h1 := diff_get _ pow_tab i j h (by rw [powL_len]; exact hj)
  have h2 := powL_get 255 1 i (by omega)
  have h3 := powL_get 255 1 j (by omega)
  rw [one_v] at h2 h3
  rw [h2, h3, e] at h1
  exact h1 rfl
theorem al_ne (i : Nat) : pw al i ≠ 0 := pw_ne (fun e => by have := congrArg F.v e; simp [al, zero_v] at this) i
/-- The number of the place p in a word of n bytes. -/
def xp (n p : Nat) : F := pw al (n - 1 - p)
theorem xp_diff {n p q : Nat} (hn : n ≤ 255) (h : p < q) (hq : q < n) : xp n p ≠ xp n q := fun e => al_diff (by omega) (by omega) e.symm

/-! ### Words -/
/-- The j-th value of a word of n bytes. -/
def syn (n : Nat) (w : Nat → F) (j : Nat) : F := sm n (fun p => w p * pw (xp n p) j)
theorem syn_add (n : Nat) (w u : Nat → F) (j : Nat) : syn n (fun p => w p + u p) j = syn n w j + syn n u j := by
  unfold syn
  rw [← sm_add]
  exact sm_congr _ fun i _ => F.add_mul _ _ _
/-- The places at which two words differ. -/
def df (w u : Nat → F) (i : Nat) : Bool := decide (w i ≠ u i)
def dist (n : Nat) (w u : Nat → F) : Nat := (pl (df w u) n).length
theorem dist_succ (n : Nat) (w u : Nat → F) : dist (n + 1) w u = dist n w u + if w n = u n then 0 else 1 := by
  unfold dist
  by_cases h : w n = u n
  · rw [pl_neg (show ¬ df w u n = true by simp [df, h]), if_pos h]; rfl
  · rw [pl_pos (show df w u n = true by simp [df, h]), if_neg h, List.length_append]; rfl
theorem dist_tri (w a b : Nat → F) : ∀ n, dist n a b ≤ dist n w a + dist n w b
  | 0 => Nat.zero_le _
  | n + 1 => by
    have ih := dist_tri w a b n
    rw [dist_succ, dist_succ, dist_succ]
    by_cases h1 : w n = a n
    · by_cases h2 : w n = b n
      · rw [if_pos (h1.symm.trans h2), if_pos h1, if_pos h2]; omega
      · rw [if_neg h2]; split <;> omega
    · rw [if_neg h1]; split <;> omega
/-- The values of a word that differs from a clean one are told by the places at which it does. -/
theorem syn_df {n : Nat} {w u : Nat → F} {j : Nat} (hu : syn n u j = 0) : syn n w j = sy (pl (df w u) n).length (fun l => xp n ((pl (df w u) n).getD l 0)) (fun l => w ((pl (df w u) n).getD l 0) + u ((pl (df w u) n).getD l 0)) j := by
  have e : syn n w j = syn n (fun p => w p + u p) j := by rw [syn_add, hu, F.add_zero]
  rw [e]
  unfold sy
  rw [← pl_sum (df w u) (fun p => (w p + u p) * pw (xp n p) j) n]
  refine sm_congr _ fun i _ => ?_
  by_cases h : w i = u i
  · rw [if_neg (by simp [df, h])]
    show (w i + u i) * pw (xp n i) j = 0
    rw [h, F.add_self, F.zero_mul]
  · rw [if_pos (by simp [df, h])]
theorem pl_xp {n : Nat} (hn : n ≤ 255) (p : Nat → Bool) : ∀ i j, i < j → j < (pl p n).length → xp n ((pl p n).getD i 0) ≠ xp n ((pl p n).getD j 0) := fun i j h hj =>
  xp_diff hn (pl_inc p n i j h hj) (pl_lt p n _ (getD_mem hj)).1
/-- Two clean words that differ at few places are one. -/
theorem uniq {n t : Nat} (hn : n ≤ 255) {a b : Nat → F} (ha : ∀ j, j < t → syn n a j = 0) (hb : ∀ j, j < t → syn n b j = 0) (hd : dist n a b ≤ t) : ∀ i, i < n → a i = b i := by
  intro i hi
  by_cases h : a i = b i
  · exact h
  · exfalso
    have z := vdm (pl (df a b) n).length (fun l => xp n ((pl (df a b) n).getD l 0)) (fun l => a ((pl (df a b) n).getD l 0) + b ((pl (df a b) n).getD l 0)) (pl_xp hn _) (fun m hm => by
      have hm' : m < t := Nat.lt_of_lt_of_le hm hd
      have h1 := syn_df (w := a) (hb m hm')
      rw [ha m hm'] at h1
      exact h1.symm)
    have hm := pl_mem (df a b) n i hi (by simp [df, h])
    obtain ⟨l, hl, e⟩ := List.mem_iff_getElem.1 hm
    have h2 := z l hl
    rw [List.getD_eq_getElem?_getD, List.getElem?_eq_getElem hl] at h2
    simp only [Option.getD_some, e] at h2
    exact h (eq_of_add h2)

/-! ### Elimination -/
/-- A row of the matrix M (columns 0 .. n) times z. -/
def lin (n : Nat) (r z : Nat → F) : F := sm (n + 1) (fun j => r j * z j)
def ker (R n : Nat) (M : Nat → Nat → F) (z : Nat → F) : Prop := ∀ i, i < R → lin n (M i) z = 0
/-- The row k becomes the row c, its number in the column c is made 1, those of all others 0. -/
def gj (c k : Nat) (M : Nat → Nat → F) (i j : Nat) : F :=
  if i = c then M k j * inv (M k c) else (if i = k then M c j else M i j) + (if i = k then M c c else M i c) * (M k j * inv (M k c))
theorem lin_scale (n : Nat) (r z : Nat → F) (a : F) : lin n (fun j => r j * a) z = lin n r z * a := by
  unfold lin
  rw [← sm_mul_right]
  exact sm_congr _ fun i _ => by rw [F.mul_assoc, F.mul_comm a, ← F.mul_assoc]
theorem lin_add (n : Nat) (r s z : Nat → F) (a : F) : lin n (fun j => r j + a * s j) z = lin n r z + a * lin n s z := by
  unfold lin
  rw [← sm_mul, ← sm_add]
  exact sm_congr _ fun i _ => by rw [F.add_mul, F.mul_assoc]
theorem lin_congr (n : Nat) {r s : Nat → F} (z : Nat → F) (h : ∀ j, j ≤ n → r j = s j) : lin n r z = lin n s z := sm_congr _ fun i hi => by rw [h i (by omega)]
theorem gj_row (n c k : Nat) (M : Nat → Nat → F) (z : Nat → F) (i : Nat) : lin n (gj c k M i) z = if i = c then lin n (M k) z * inv (M k c) else lin n (if i = k then M c else M i) z + (if i = k then M c c else M i c) * (lin n (M k) z * inv (M k c)) := by
  by_cases h : i = c
  · rw [if_pos h, ← lin_scale]
    exact lin_congr n z fun j _ => if_pos h
  · rw [if_neg h, ← lin_scale, ← lin_add]
    refine lin_congr n z fun j _ => ?_
    unfold gj
    rw [if_neg h]
    by_cases h2 : i = k
    · rw [if_pos h2, if_pos h2, if_pos h2]
    · rw [if_neg h2, if_neg h2, if_neg h2]
theorem gj_ker {R n c k : Nat} {M : Nat → Nat → F} (hc : c < R) (hk : k < R) (hp : M k c ≠ 0) (z : Nat → F) : ker R n (gj c k M) z ↔ ker R n M z := by
  constructor
  · intro h
    have h1 := h c hc
    rw [gj_row, if_pos rfl] at h1
    have hK : lin n (M k) z = 0 := (mul_eq_zero h1).resolve_right (inv_ne hp)
    intro i hi
    by_cases h2 : i = k
    · rw [h2]; exact hK
    · by_cases h3 : i = c
      · subst h3
        have h4 := h k hk
        rw [gj_row, if_neg (fun e => h2 e.symm), if_pos rfl, hK, F.zero_mul, F.mul_zero, F.add_zero] at h4
        exact h4
      · have h4 := h i hi
        rw [gj_row, if_neg h3, if_neg h2, if_neg h2, hK, F.zero_mul, F.mul_zero, F.add_zero] at h4
        exact h4
  · intro h i hi
    rw [gj_row, h k hk, F.zero_mul, F.mul_zero, F.add_zero]
    by_cases h3 : i = c
    · rw [if_pos h3]
    · rw [if_neg h3]
      by_cases h2 : i = k
      · rw [if_pos h2]; exact h c hc
      · rw [if_neg h2]; exact h i hi
/-- The first c columns are those of the unit matrix. -/
def unit (R c : Nat) (M : Nat → Nat → F) : Prop := ∀ i j, i < R → j < c → M i j = if i = j then 1 else 0
theorem gj_unit {R c k : Nat} {M : Nat → Nat → F} (hu : unit R c M) (hc : c < R) (hk : k < R) (hck : c ≤ k) (hp : M k c ≠ 0) : unit R (c + 1) (gj c k M) := by
  intro i j hi hj
  unfold gj
  by_cases ej : j = c
  · subst ej
    by_cases h : i = j
    · rw [if_pos h, if_pos h, mul_inv hp]
    · rw [if_neg h, if_neg h, mul_inv hp, F.mul_one]
      by_cases h2 : i = k
      · rw [if_pos h2, F.add_self]
      · rw [if_neg h2, F.add_self]
  · have hkj : M k j = 0 := by rw [hu k j hk (by omega), if_neg (by omega)]
    rw [hkj, F.zero_mul, F.mul_zero, F.add_zero]
    by_cases h : i = c
    · rw [if_pos h, if_neg (by omega)]
    · rw [if_neg h]
      by_cases h2 : i = k
      · rw [if_pos h2, hu c j hc (by omega), if_neg (by omega), if_neg (by omega)]
      · rw [if_neg h2]; exact hu i j hi (by omega)
/-- Without a number in the column c that could be made 1, something but 0 is in the kernel. -/
theorem gj_fail {R n c : Nat} {M : Nat → Nat → F} (hu : unit R c M) (hcn : c < n) (h0 : ∀ k, c ≤ k → k < R → M k c = 0) : ∃ z, ker R n M z ∧ z n = 0 ∧ z c = 1 := by
  refine ⟨fun j => if j < c then M j c else if j = c then 1 else 0, ?_, ?_, ?_⟩
  · intro i hi
    unfold lin
    have e2 : n + 1 = c + (n - c + 1) := by omega
    rw [e2, sm_split, sm_front]
    have e3 : sm (n - c) (fun j => M i (c + (j + 1)) * (if c + (j + 1) < c then M (c + (j + 1)) c else if c + (j + 1) = c then (1 : F) else 0)) = 0 := sm_zero' _ fun j _ => by rw [if_neg (by omega), if_neg (by omega), F.mul_zero]
    rw [e3, F.add_zero]
    show _ + M i c * (if c < c then M c c else if c = c then (1 : F) else 0) = 0
    rw [if_neg (by omega), if_pos rfl, F.mul_one]
    have e4 : sm c (fun j => M i j * (if j < c then M j c else if j = c then (1 : F) else 0)) = sm c (fun j => if i = j then M j c else 0) := sm_congr _ fun j hj => by
      rw [if_pos hj, hu i j hi hj]
      by_cases e : i = j
      · rw [if_pos e, if_pos e, F.one_mul]
      · rw [if_neg e, if_neg e, F.zero_mul]
    rw [e4]
    rcases Nat.lt_or_ge i c with h | h
    · rw [sm_one (f := fun j => if i = j then M j c else 0) h (fun j hj hne => if_neg (fun e => hne e.symm))]
      show (if i = i then M i c else 0) + M i c = 0
      rw [if_pos rfl, F.add_self]
    · rw [sm_zero' c (fun j hj => if_neg (by omega)), F.zero_add]
      exact h0 i h hi
  · show (if n < c then M n c else if n = c then (1 : F) else 0) = 0
    rw [if_neg (by omega), if_neg (by omega)]
  · show (if c < c then M c c else if c = c then (1 : F) else 0) = 1
    rw [if_neg (by omega), if_pos rfl]
/-- All n columns made: what is in the kernel. -/
theorem gj_done {R n : Nat} {M : Nat → Nat → F} (hu : unit R n M) (hR : n ≤ R) (z : Nat → F) (hz : z n = 1) : ker R n M z ↔ (∀ i, i < n → z i = M i n) ∧ ∀ i, n ≤ i → i < R → M i n = 0 := by
  have key : ∀ i, i < R → lin n (M i) z = (if i < n then z i else 0) + M i n := by
    intro i hi
    unfold lin
    show sm n (fun j => M i j * z j) + M i n * z n = _
    rw [hz, F.mul_one]
    congr 1
    have e4 : sm n (fun j => M i j * z j) = sm n (fun j => if i = j then z j else 0) := sm_congr _ fun j hj => by
      rw [hu i j hi hj]
      by_cases e : i = j
      · rw [if_pos e, if_pos e, F.one_mul]
      · rw [if_neg e, if_neg e, F.zero_mul]
    rw [e4]
    rcases Nat.lt_or_ge i n with h | h
    · rw [sm_one (f := fun j => if i = j then z j else 0) h (fun j hj hne => if_neg (fun e => hne e.symm)), if_pos h]
      exact if_pos rfl
    · rw [sm_zero' n (fun j hj => if_neg (by omega)), if_neg (by omega)]
  constructor
  · intro h
    refine ⟨fun i hi => ?_, fun i h1 h2 => ?_⟩
    · have h3 := h i (by omega)
      rw [key i (by omega), if_pos hi] at h3
      exact eq_of_add h3
    · have h3 := h i h2
      rw [key i h2, if_neg (by omega), F.zero_add] at h3
      exact h3
  · intro h i hi
    rw [key i hi]
    rcases Nat.lt_or_ge i n with h1 | h1
    · rw [if_pos h1, h.1 i h1, F.add_self]
    · rw [if_neg (by omega), h.2 i h1 hi, F.add_zero]
end Go.Proofs.Ytdcjfcfiflpblaa.Gj
