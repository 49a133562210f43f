/- Registers and faults in the field of 256 elements: the shortest register of Berlekamp and Massey, step by step; its polynomial's roots are the faults' places. No condition. -/
import Derived.Test.YtdcjfcfiflpblaaFd
namespace Go.Proofs.Ytdcjfcfiflpblaa.Bm
open Go.Proofs.Ytdcjfcfiflpblaa.Fd Go.Proofs.Ytdcjfcfiflpblaa.Fd.F

theorem sm_rev : ∀ (n : Nat) (f : Nat → F), sm (n + 1) (fun i => f (n - i)) = sm (n + 1) f
  | 0, _ => rfl
  | n + 1, f => by
    rw [sm_front (fun i => f (n + 1 - i)) (n + 1)]
    have e : sm (n + 1) (fun i => f (n + 1 - (i + 1))) = sm (n + 1) (fun i => f (n - i)) := sm_congr _ fun i _ => by congr 1; omega
    rw [e, sm_rev n f]
    show f (n + 1 - 0) + sm (n + 1) f = sm (n + 1) f + f (n + 1)
    rw [F.add_comm]; rfl
/-- More numbers that are 0. -/
theorem sm_pad {f : Nat → F} {n m : Nat} (h : n ≤ m) (h0 : ∀ i, n ≤ i → i < m → f i = 0) : sm m f = sm n f := by
  obtain ⟨d, rfl⟩ : ∃ d, m = n + d := ⟨m - n, by omega⟩
  rw [sm_split, sm_zero' d (fun i hi => h0 (n + i) (by omega) (by omega)), F.add_zero]
/-- What the register tells at m. -/
def dsc (c T : Nat → F) (L m : Nat) : F := sm (L + 1) (fun i => c i * T (m - i))
/-- The sums of powers that v faults tell. -/
def sy (v : Nat) (X Y : Nat → F) (m : Nat) : F := sm v (fun l => Y l * pw (X l) m)
/-- The register's polynomial, the highest power first. -/
def crev (c : Nat → F) (L : Nat) (x : F) : F := ev L (fun j => c (L - j)) x
theorem crev_sm (c : Nat → F) (L : Nat) (x : F) : crev c L x = sm (L + 1) (fun i => c i * pw x (L - i)) := by
  unfold crev
  rw [ev_sm, ← sm_rev L (fun i => c i * pw x (L - i))]
  refine sm_congr _ fun i hi => ?_
  rw [show L - (L - i) = i by omega]
theorem dsc_faults (v : Nat) (X Y c : Nat → F) {L m : Nat} (h : L ≤ m) : dsc c (sy v X Y) L m = sm v (fun l => Y l * crev c L (X l) * pw (X l) (m - L)) := by
  unfold dsc sy
  have e1 : sm (L + 1) (fun i => c i * sm v (fun l => Y l * pw (X l) (m - i))) = sm (L + 1) (fun i => sm v (fun l => c i * (Y l * pw (X l) (m - i)))) := sm_congr _ fun i _ => (sm_mul _ _ _).symm
  rw [e1, sm_swap]
  refine sm_congr _ fun l _ => ?_
  rw [crev_sm, ← sm_mul, ← sm_mul_right]
  refine sm_congr _ fun i hi => ?_
  have e : m - i = (L - i) + (m - L) := by omega
  rw [e, pw_add]
  rw [F.mul_left_comm (c i) (Y l), F.mul_assoc (Y l), F.mul_assoc (c i)]
/-- A register that fails at n is long. -/
theorem bound {v : Nat} {X Y c : Nat → F} {L n : Nat} (hX : ∀ i j, i < j → j < v → X i ≠ X j) (hg : ∀ m, L ≤ m → m < n → dsc c (sy v X Y) L m = 0) (hL : L ≤ n) (hd : dsc c (sy v X Y) L n ≠ 0) : n + 1 ≤ L + v := by
  rcases Nat.lt_or_ge n (L + v) with h | h
  · omega
  · exfalso
    have z := vdm v X (fun l => Y l * crev c L (X l)) hX (fun m hm => by
      have h1 := hg (L + m) (by omega) (by omega)
      rw [dsc_faults v X Y c (by omega), show L + m - L = m by omega] at h1
      exact h1)
    apply hd
    rw [dsc_faults v X Y c hL]
    exact sm_zero' v (fun l hl => by rw [z l hl, F.zero_mul])
/-- The sums, a 1 ahead of them. -/
def ahead (S : Nat → F) : Nat → F
  | 0 => 1
  | k + 1 => S k
/-- What holds of the two registers when n sums have been read. -/
structure Inv (S : Nat → F) (n : Nat) (c b : Nat → F) (l lb Nb : Nat) (last : F) : Prop where
  c0 : c 0 = 1
  ch : ∀ i, l < i → c i = 0
  ln : l ≤ n
  cg : ∀ m, l ≤ m → m < n → dsc c S l m = 0
  bh : ∀ i, lb < i → b i = 0
  Nbn : Nb ≤ n
  sum : l + lb = Nb
  bg : ∀ m, lb + 1 ≤ m → m < Nb → dsc b (ahead S) lb m = 0
  bd : dsc b (ahead S) lb Nb = last
  l0 : last ≠ 0
theorem inv_start (S : Nat → F) {c : Nat → F} (h0 : c 0 = 1) (h : ∀ i, 0 < i → c i = 0) : Inv S 0 c c 0 0 0 1 where
  c0 := h0
  ch := h
  ln := Nat.le_refl _
  cg := fun m _ h => by omega
  bh := h
  Nbn := Nat.le_refl _
  sum := rfl
  bg := fun m _ h => by omega
  bd := by
    show (0 : F) + c 0 * 1 = 1
    rw [h0, F.zero_add, F.mul_one]
  l0 := one_ne
theorem inv_same {S : Nat → F} {n : Nat} {c b : Nat → F} {l lb Nb : Nat} {last : F} (I : Inv S n c b l lb Nb last) (hd : dsc c S l n = 0) : Inv S (n + 1) c b l lb Nb last where
  c0 := I.c0
  ch := I.ch
  ln := by have := I.ln; omega
  cg := fun m h1 h2 => by
    rcases Nat.lt_or_ge m n with h | h
    · exact I.cg m h1 h
    · rw [show m = n by omega]; exact hd
  bh := I.bh
  Nbn := by have := I.Nbn; omega
  sum := I.sum
  bg := I.bg
  bd := I.bd
  l0 := I.l0
/-- The register mended by the elder one, m places on. -/
def mended (c b : Nat → F) (f : F) (m i : Nat) : F := c i + if m ≤ i then f * b (i - m) else 0
theorem dsc_pad {c T : Nat → F} {l L m : Nat} (h : l ≤ L) (hc : ∀ i, l < i → c i = 0) : dsc c T L m = dsc c T l m :=
  sm_pad (by omega) fun i h1 _ => by rw [hc i (by omega), F.zero_mul]
theorem ahead_sub (S : Nat → F) {k : Nat} (h : 1 ≤ k) : ahead S k = S (k - 1) := by
  obtain ⟨d, rfl⟩ : ∃ d, k = d + 1 := ⟨k - 1, by omega⟩
  rfl
theorem dsc_ahead (c S : Nat → F) {l m : Nat} (h : l ≤ m) : dsc c (ahead S) l (m + 1) = dsc c S l m :=
  sm_congr _ fun i hi => by rw [ahead_sub S (by omega), show m + 1 - i - 1 = m - i by omega]
theorem dsc_mended {S : Nat → F} {n : Nat} {c b : Nat → F} {l lb Nb : Nat} {last : F} (I : Inv S n c b l lb Nb last) (f : F) {L k : Nat} (hl : l ≤ L) (hL : n + 1 ≤ L + l) (hk : L ≤ k) :
    dsc (mended c b f (n + 1 - Nb)) S L k = dsc c S l k + f * dsc b (ahead S) lb (k + Nb - n) := by
  have h1 := I.Nbn
  have h2 := I.sum
  have e : dsc (mended c b f (n + 1 - Nb)) S L k = dsc c S L k + sm (L + 1) (fun i => (if n + 1 - Nb ≤ i then f * b (i - (n + 1 - Nb)) else 0) * S (k - i)) := by
    unfold dsc
    rw [← sm_add]
    exact sm_congr _ fun i _ => F.add_mul _ _ _
  rw [e, dsc_pad hl I.ch]
  congr 1
  have e2 : L + 1 = (n + 1 - Nb) + (L - (n + 1 - Nb) + 1) := by omega
  rw [e2, sm_split, sm_zero' (n + 1 - Nb) (fun i hi => by rw [if_neg (by omega), F.zero_mul]), F.zero_add]
  have e3 : sm (L - (n + 1 - Nb) + 1) (fun i => (if n + 1 - Nb ≤ n + 1 - Nb + i then f * b (n + 1 - Nb + i - (n + 1 - Nb)) else 0) * S (k - (n + 1 - Nb + i))) = sm (L - (n + 1 - Nb) + 1) (fun i => f * (b i * ahead S (k + Nb - n - i))) := by
    refine sm_congr _ fun i hi => ?_
    rw [if_pos (by omega), show n + 1 - Nb + i - (n + 1 - Nb) = i by omega, ahead_sub S (by omega), show k + Nb - n - i - 1 = k - (n + 1 - Nb + i) by omega, F.mul_assoc]
  rw [e3, sm_mul]
  congr 1
  exact sm_pad (by omega) fun i h3 _ => by rw [I.bh i (by omega), F.zero_mul]
theorem mended_gen {S : Nat → F} {n : Nat} {c b : Nat → F} {l lb Nb : Nat} {last f : F} (I : Inv S n c b l lb Nb last) (hf : f * last = dsc c S l n) {L : Nat} (hl : l ≤ L) (hL : n + 1 ≤ L + l) :
    ∀ m, L ≤ m → m < n + 1 → dsc (mended c b f (n + 1 - Nb)) S L m = 0 := by
  intro k h1 h2
  have h3 := I.Nbn
  have h4 := I.sum
  rw [dsc_mended I f hl hL h1]
  rcases Nat.lt_or_ge k n with h | h
  · rw [I.cg k (by omega) h, I.bg (k + Nb - n) (by omega) (by omega), F.mul_zero, F.add_zero]
  · obtain rfl : k = n := by omega
    rw [show k + Nb - k = Nb by omega, I.bd, hf, F.add_self]
theorem mended_high {S : Nat → F} {n : Nat} {c b : Nat → F} {l lb Nb : Nat} {last : F} (I : Inv S n c b l lb Nb last) (f : F) {L : Nat} (hl : l ≤ L) (hL : n + 1 ≤ L + l) : ∀ i, L < i → mended c b f (n + 1 - Nb) i = 0 := by
  intro i hi
  have h3 := I.Nbn
  have h4 := I.sum
  unfold mended
  rw [I.ch i (by omega), F.zero_add]
  split
  · rw [I.bh _ (by omega), F.mul_zero]
  · rfl
theorem mended_0 {S : Nat → F} {n : Nat} {c b : Nat → F} {l lb Nb : Nat} {last : F} (I : Inv S n c b l lb Nb last) (f : F) : mended c b f (n + 1 - Nb) 0 = 1 := by
  have h3 := I.Nbn
  unfold mended
  rw [if_neg (by omega), F.add_zero, I.c0]
theorem inv_keep {S : Nat → F} {n : Nat} {c b : Nat → F} {l lb Nb : Nat} {last f : F} (I : Inv S n c b l lb Nb last) (hf : f * last = dsc c S l n) (hl : n < 2 * l) : Inv S (n + 1) (mended c b f (n + 1 - Nb)) b l lb Nb last where
  c0 := mended_0 I f
  ch := mended_high I f (Nat.le_refl _) (by omega)
  ln := by have := I.ln; omega
  cg := mended_gen I hf (Nat.le_refl _) (by omega)
  bh := I.bh
  Nbn := by have := I.Nbn; omega
  sum := I.sum
  bg := I.bg
  bd := I.bd
  l0 := I.l0
theorem inv_more {S : Nat → F} {n : Nat} {c b : Nat → F} {l lb Nb : Nat} {last f : F} (I : Inv S n c b l lb Nb last) (hf : f * last = dsc c S l n) (hd : dsc c S l n ≠ 0) (hl : 2 * l ≤ n) : Inv S (n + 1) (mended c b f (n + 1 - Nb)) c (n + 1 - l) l (n + 1) (dsc c S l n) where
  c0 := mended_0 I f
  ch := mended_high I f (by omega) (by omega)
  ln := by omega
  cg := mended_gen I hf (by omega) (by omega)
  bh := I.ch
  Nbn := Nat.le_refl _
  sum := by omega
  bg := fun m h1 h2 => by
    obtain ⟨k, rfl⟩ : ∃ k, m = k + 1 := ⟨m - 1, by omega⟩
    rw [dsc_ahead c S (by omega)]
    exact I.cg k (by omega) (by omega)
  bd := dsc_ahead c S (by omega)
  l0 := hd
/-- A register for at least twice as many sums as there are faults, no longer than they are many: its polynomial's roots are the faults' numbers, and it is as long. -/
theorem regs {v : Nat} {X Y c : Nat → F} {l n : Nat} (hX : ∀ i j, i < j → j < v → X i ≠ X j) (hX0 : ∀ i, i < v → X i ≠ 0) (hY : ∀ i, i < v → Y i ≠ 0) (hn : 2 * v ≤ n) (hl : l ≤ v) (c0 : c 0 = 1) (cg : ∀ m, l ≤ m → m < n → dsc c (sy v X Y) l m = 0) :
    l = v ∧ c v ≠ 0 ∧ (∀ i, i < v → crev c v (X i) = 0) ∧ ∀ z, (∀ i, i < v → z ≠ X i) → crev c v z ≠ 0 := by
  have z := vdm v X (fun i => Y i * crev c l (X i)) hX (fun m hm => by
    have h1 := cg (l + m) (by omega) (by omega)
    rw [dsc_faults v X Y c (by omega), show l + m - l = m by omega] at h1
    exact h1)
  have hr : ∀ i, i < v → crev c l (X i) = 0 := fun i hi => (mul_eq_zero (z i hi)).resolve_left (hY i hi)
  have e : l = v := by
    rcases Nat.lt_or_ge l v with h | h
    · exfalso
      have h1 := roots l (fun j => c (l - j)) X (fun i j h1 h2 => hX i j h1 (by omega)) (fun i hi => hr i (by omega)) l (Nat.le_refl _)
      rw [Nat.sub_self, c0] at h1
      exact one_ne h1
    · omega
  subst e
  have hz : ∀ z, (∀ i, i < l → z ≠ X i) → crev c l z ≠ 0 := by
    intro z hz h0
    have h1 := roots l (fun j => c (l - j)) (fun i => if i < l then X i else z) (fun i j h1 h2 => by
      show (if i < l then X i else z) ≠ (if j < l then X j else z)
      rw [if_pos (by omega)]
      by_cases hj : j < l
      · rw [if_pos hj]; exact hX i j h1 hj
      · rw [if_neg hj]; exact fun e => hz i (by omega) e.symm) (fun i hi => by
      show ev l (fun j => c (l - j)) (if i < l then X i else z) = 0
      by_cases hj : i < l
      · rw [if_pos hj]; exact hr i hj
      · rw [if_neg hj]; exact h0) l (Nat.le_refl _)
    rw [Nat.sub_self, c0] at h1
    exact one_ne h1
  refine ⟨rfl, ?_, hr, hz⟩
  have h1 := hz 0 (fun i hi e => hX0 i hi e.symm)
  intro h2
  apply h1
  show ev l (fun j => c (l - j)) 0 = 0
  rcases Nat.eq_zero_or_pos l with h3 | h3
  · subst h3; exact h2
  · obtain ⟨d, rfl⟩ : ∃ d, l = d + 1 := ⟨l - 1, by omega⟩
    show c (d + 1 - 0) + 0 * _ = 0
    rw [F.zero_mul, F.add_zero]; exact h2
end Go.Proofs.Ytdcjfcfiflpblaa.Bm
