/- Matrices over the field as lists of rows of numbers; words as functions; the values of a word. No condition. -/
import Derived.Test.YtdcjfcfiflpblaaGj
import Derived.Test.YtdcjfcfiflpblaaVec
namespace Go.Proofs.Ytdcjfcfiflpblaa.Mtx
open Go.RowKit Go.Proofs.YtdcjfcfiflpblaaW.PrintWords Go.Proofs.Ytdcjfcfiflpblaa.Com Go.Proofs.Ytdcjfcfiflpblaa.Vec Go.Proofs.Ytdcjfcfiflpblaa.Fd Go.Proofs.Ytdcjfcfiflpblaa.Fd.F Go.Proofs.Ytdcjfcfiflpblaa.Bm Go.Proofs.Ytdcjfcfiflpblaa.Gj Go.Proofs.Ytdcjfcfiflpblaa.Gf

def mat (R N : Nat) (M : Nat → Nat → F) : List (List Int) := (List.range R).map fun i => vec N (fun j => (M i j).v)
theorem mat_len (R N : Nat) (M : Nat → Nat → F) : (mat R N M).length = R := by simp [mat]
theorem mat_at {R N : Nat} {M : Nat → Nat → F} {i : Nat} (h : i < R) : (mat R N M)[i]? = some (vec N (fun j => (M i j).v)) := by
  unfold mat
  rw [List.getElem?_map, List.getElem?_range h]; rfl
theorem mat_getD {R N : Nat} {M : Nat → Nat → F} {i : Nat} (h : i < R) : (mat R N M).getD i [] = vec N (fun j => (M i j).v) := by
  rw [List.getD_eq_getElem?_getD, mat_at h]; rfl
theorem mat_congr {R N : Nat} {M M' : Nat → Nat → F} (h : ∀ i j, i < R → j < N → M i j = M' i j) : mat R N M = mat R N M' := by
  unfold mat
  refine List.map_congr_left fun i hi => vec_congr fun j hj => ?_
  rw [h i j (List.mem_range.1 hi) hj]
theorem mat_set {R N : Nat} {M : Nat → Nat → F} {i : Nat} (h : i < R) (r : Nat → F) : (mat R N M).set i (vec N fun j => (r j).v) = mat R N (fun i' j => if i' = i then r j else M i' j) := by
  apply List.ext_getElem?
  intro k
  by_cases hk : k < R
  · rw [mat_at hk]
    by_cases e : i = k
    · subst e
      rw [List.getElem?_set_self (by rw [mat_len]; exact h)]
      congr 1
      exact vec_congr fun j _ => by rw [if_pos rfl]
    · rw [List.getElem?_set_ne e, mat_at hk]
      congr 1
      exact vec_congr fun j _ => by rw [if_neg (fun h => e h.symm)]
  · rw [List.getElem?_eq_none (by rw [List.length_set, mat_len]; omega), List.getElem?_eq_none (by rw [mat_len]; omega)]
theorem vec_append (L : Nat) (r : Nat → F) : vec L (fun t => (r t).v) ++ [(((r L).v : Nat) : Int)] = vec (L + 1) (fun t => (r t).v) := (vec_snoc L fun t => (r t).v).symm
theorem mulF (a b : F) : gmI ((a.v : Nat) : Int) ((b.v : Nat) : Int) = (((a * b).v : Nat) : Int) := gmI_nat a.h b.h
theorem xorF (a b : F) : Go.bits .xor .i64 ((a.v : Nat) : Int) ((b.v : Nat) : Int) = (((a + b).v : Nat) : Int) := xor64 _ _ (by have := a.h; omega) (by have := b.h; omega)
theorem v_eq0 (a : F) : ((a.v : Nat) : Int) = 0 ↔ a = 0 := by
  constructor
  · intro h; exact F.ext (by rw [zero_v]; omega)
  · intro h; rw [h]; rfl
/-- The first row from p on with a number in the column c (d rows are looked at). -/
def fnd (M : Nat → Nat → F) (c : Nat) : Nat → Nat → Nat
  | 0, p => p
  | d + 1, p => if M p c = 0 then fnd M c d (p + 1) else p
theorem fnd_le (M : Nat → Nat → F) (c : Nat) : ∀ d p, p ≤ fnd M c d p ∧ fnd M c d p ≤ p + d
  | 0, p => ⟨Nat.le_refl _, Nat.le_refl _⟩
  | d + 1, p => by
    unfold fnd
    have := fnd_le M c d (p + 1)
    split <;> omega
theorem fnd_ne (M : Nat → Nat → F) (c : Nat) : ∀ d p, fnd M c d p < p + d → M (fnd M c d p) c ≠ 0
  | 0, p, h => absurd h (Nat.lt_irrefl _)
  | d + 1, p, h => by
    unfold fnd at h ⊢
    by_cases e : M p c = 0
    · rw [if_pos e] at h ⊢
      exact fnd_ne M c d (p + 1) (by omega)
    · rw [if_neg e]; exact e
theorem fnd_end (M : Nat → Nat → F) (c : Nat) : ∀ d p, fnd M c d p = p + d → ∀ k, p ≤ k → k < p + d → M k c = 0
  | 0, p, _, k, h1, h2 => absurd h2 (by omega)
  | d + 1, p, h, k, h1, h2 => by
    unfold fnd at h
    by_cases e : M p c = 0
    · rw [if_pos e] at h
      by_cases ek : k = p
      · rw [ek]; exact e
      · exact fnd_end M c d (p + 1) (by omega) k (by omega) (by omega)
    · rw [if_neg e] at h; omega
/-- While rows are combined: those below i are done. -/
def cmb (A : Nat → Nat → F) (c : Nat) (y : Nat → F) (i i' j : Nat) : F := if i' < i ∧ i' ≠ c then A i' j + A i' c * y j else A i' j
theorem cmb_zero (A : Nat → Nat → F) (c : Nat) (y : Nat → F) (i' j : Nat) : cmb A c y 0 i' j = A i' j := if_neg (fun h => by omega)
theorem cmb_row (A : Nat → Nat → F) (c : Nat) (y : Nat → F) {i i' : Nat} (h : i ≤ i') (j : Nat) : cmb A c y i i' j = A i' j := if_neg (fun e => by omega)
theorem cmb_same (A : Nat → Nat → F) (c : Nat) (y : Nat → F) (i' j : Nat) : cmb A c y (c + 1) i' j = cmb A c y c i' j := by
  unfold cmb
  by_cases h : i' < c ∧ i' ≠ c
  · rw [if_pos h, if_pos ⟨by omega, h.2⟩]
  · rw [if_neg h, if_neg (fun e => h ⟨by omega, e.2⟩)]
theorem cmb_next (A : Nat → Nat → F) {c i : Nat} (y : Nat → F) (h : i ≠ c) (i' j : Nat) : (if i' = i then A i j + A i c * y j else cmb A c y i i' j) = cmb A c y (i + 1) i' j := by
  unfold cmb
  by_cases e : i' = i
  · subst e; rw [if_pos rfl, if_pos ⟨by omega, h⟩]
  · rw [if_neg e]
    by_cases h2 : i' < i ∧ i' ≠ c
    · rw [if_pos h2, if_pos ⟨by omega, h2.2⟩]
    · rw [if_neg h2, if_neg (fun e2 => h2 ⟨by omega, e2.2⟩)]
/-- The matrix with the row k brought to the place c, c's row in its stead, and the row y in the place c. -/
def swp (M : Nat → Nat → F) (c k : Nat) (y : Nat → F) (i j : Nat) : F := if i = c then y j else if i = k then M c j else M i j
theorem cmb_gj (M : Nat → Nat → F) (R c k : Nat) (i j : Nat) (hi : i < R) : cmb (swp M c k (fun j => M k j * inv (M k c))) c (fun j => M k j * inv (M k c)) R i j = gj c k M i j := by
  unfold cmb gj swp
  by_cases h : i = c
  · rw [if_neg (fun e => e.2 h), if_pos h, if_pos h]
  · rw [if_pos ⟨hi, h⟩, if_neg h, if_neg h, if_neg h]
/-! ### Words -/
def wF (l : List Int) (p : Nat) : F := ⟨tl l p % 256, Nat.mod_lt _ (by decide)⟩
theorem tlB {l : List Int} (hb : Bytes l) (p : Nat) : tl l p < 256 := by
  by_cases h : p < l.length
  · have := wfb (hb _ (rd_mem (xs := l) (i := p) h))
    unfold tl; omega
  · rw [tl_end (by omega)]; omega
theorem wF_v {l : List Int} (hb : Bytes l) (p : Nat) : (wF l p).v = tl l p := Nat.mod_eq_of_lt (tlB hb p)
theorem wF_rd {l : List Int} (hb : Bytes l) {p : Nat} (h : p < l.length) : rd l (p : Int) = (((wF l p).v : Nat) : Int) := by
  have := wfb (hb _ (rd_mem (xs := l) (i := p) h))
  rw [wF_v hb]; unfold tl; omega
theorem wF_vec {l : List Int} (hb : Bytes l) : l = vec l.length (fun p => (wF l p).v) := by
  have h := tl_vec (l := l) (fun p hp => (wfb (hb _ (rd_mem (xs := l) (i := p) hp))).1)
  rw [vec_congr (s := fun p => (wF l p).v) (fun p _ => (wF_v hb p).symm)] at h
  exact h
theorem vec_wF {L : Nat} (u : Nat → F) {p : Nat} (h : p < L) : wF (vec L fun p => (u p).v) p = u p := by
  have e : tl (vec L fun p => (u p).v) p = (u p).v := by unfold tl; rw [rd_vec _ h]; rfl
  refine F.ext ?_
  show tl (vec L fun p => (u p).v) p % 256 = (u p).v
  rw [e, Nat.mod_eq_of_lt (u p).h]
theorem vec_bytes (L : Nat) (u : Nat → F) : Bytes (vec L fun p => (u p).v) := by
  intro x hx
  unfold vec at hx
  obtain ⟨p, _, rfl⟩ := List.mem_map.1 hx
  exact byte_wf ⟨Int.natCast_nonneg _, by show (((u p).v : Nat) : Int) ≤ 255; have := (u p).h; omega⟩
theorem pw_al (n : Nat) : (pw al n).v = xtN n 1 := by
  induction n with
  | zero => rfl
  | succ n ih =>
    show (al * pw al n).v = _
    rw [xt_al, ih, xtN_succ]
theorem xtN_mod (n : Nat) : xtN (n % 255) 1 = xtN n 1 := by
  have h : n = n % 255 + 255 * (n / 255) := (Nat.mod_add_div n 255).symm
  have h2 : xtN (n % 255 + 255 * (n / 255)) 1 = xtN (n % 255) 1 := by rw [xtN_add, xtN_mul255]
  rw [← h] at h2
  exact h2.symm
/-- A word with numbers added at places. -/
def addAt (w : Nat → F) (g : Nat → Nat) (s : Nat → F) : Nat → Nat → F
  | 0, p => w p
  | i + 1, p => if p = g i then addAt w g s i p + s i else addAt w g s i p
theorem syn_one (n : Nat) (u : Nat → F) {q : Nat} (hq : q < n) (a : F) (j : Nat) : syn n (fun p => if p = q then u p + a else u p) j = syn n u j + a * pw (xp n q) j := by
  have e : (fun p => if p = q then u p + a else u p) = fun p => u p + (if p = q then a else 0) := by
    funext p; split
    · rfl
    · rw [F.add_zero]
  rw [e, syn_add]
  congr 1
  unfold syn
  rw [sm_one (k := q) hq (fun i _ hne => by
    show (if i = q then a else 0) * _ = 0
    rw [if_neg hne, F.zero_mul])]
  show (if q = q then a else 0) * _ = _
  rw [if_pos rfl]
theorem syn_addAt (n : Nat) (w : Nat → F) (g : Nat → Nat) (s : Nat → F) (j : Nat) : ∀ i, (∀ t, t < i → g t < n) → syn n (addAt w g s i) j = syn n w j + sm i (fun t => s t * pw (xp n (g t)) j)
  | 0, _ => by show syn n w j = syn n w j + 0; rw [F.add_zero]
  | i + 1, h => by
    have ih := syn_addAt n w g s j i (fun t ht => h t (by omega))
    show syn n (fun p => if p = g i then addAt w g s i p + s i else addAt w g s i p) j = syn n w j + (sm i (fun t => s t * pw (xp n (g t)) j) + s i * pw (xp n (g i)) j)
    rw [syn_one n _ (h i (by omega)), ih, F.add_assoc]
theorem addAt_off (w : Nat → F) (g : Nat → Nat) (s : Nat → F) {p : Nat} : ∀ i, (∀ t, t < i → g t ≠ p) → addAt w g s i p = w p
  | 0, _ => rfl
  | i + 1, h => by
    show (if p = g i then _ else _) = _
    rw [if_neg (fun e => h i (by omega) e.symm)]
    exact addAt_off w g s i (fun t ht => h t (by omega))
theorem addAt_congr (w : Nat → F) (g : Nat → Nat) {s s' : Nat → F} (p : Nat) : ∀ i, (∀ t, t < i → s t = s' t) → addAt w g s i p = addAt w g s' i p
  | 0, _ => rfl
  | i + 1, h => by
    show (if p = g i then _ else _) = (if p = g i then _ else _)
    rw [addAt_congr w g p i (fun t ht => h t (by omega)), h i (by omega)]
/-- The system of the places g: for each j < R the sum of each one's number times its place's power is the word's value. -/
def sysM (N n : Nat) (g : Nat → Nat) (S : Nat → F) (i j : Nat) : F := if j < n then pw (xp N (g j)) i else S i
theorem lin_sys (N n : Nat) (g : Nat → Nat) (S z : Nat → F) (i : Nat) : lin n (sysM N n g S i) z = sm n (fun j => z j * pw (xp N (g j)) i) + S i * z n := by
  unfold lin
  show sm n (fun j => sysM N n g S i j * z j) + sysM N n g S i n * z n = _
  have e : sysM N n g S i n = S i := if_neg (by omega)
  rw [e]
  congr 1
  exact sm_congr _ fun j hj => by
    show sysM N n g S i j * z j = _
    unfold sysM
    rw [if_pos hj, F.mul_comm]
/-- The columns of different places are independent. -/
theorem sys_free {N n R : Nat} {g : Nat → Nat} {S z : Nat → F} (hN : N ≤ 255) (hg : ∀ i, i < n → g i < N) (hd : ∀ i j, i < j → j < n → g i < g j) (hR : n ≤ R) (hk : ker R n (sysM N n g S) z) (h0 : z n = 0) : ∀ i, i < n → z i = 0 := by
  refine vdm n (fun j => xp N (g j)) z (fun i j hij hj => xp_diff hN (hd i j hij hj) (hg j hj)) (fun m hm => ?_)
  have h := hk m (by omega)
  rw [lin_sys, h0, F.mul_zero, F.add_zero] at h
  exact h
/-! ### A matrix whose rows are written in place -/
def put (M : Nat → Nat → F) (i j : Nat) (v : F) (i' j' : Nat) : F := if i' = i ∧ j' = j then v else M i' j'
theorem mat_put {R N : Nat} (M : Nat → Nat → F) {i j : Nat} (hi : i < R) (hj : j < N) (v : F) : (mat R N M).set i ((vec N fun t => (M i t).v).set j ((v.v : Nat) : Int)) = mat R N (put M i j v) := by
  have e : (vec N fun t => (M i t).v).set j ((v.v : Nat) : Int) = vec N fun t => ((if t = j then v else M i t : F)).v := by
    rw [set_vec _ _ hj]
    exact vec_congr fun t _ => by unfold upd; split <;> rfl
  rw [e, mat_set hi (fun t => if t = j then v else M i t)]
  refine mat_congr fun i' j' _ _ => ?_
  unfold put
  by_cases h : i' = i
  · subst h
    rw [if_pos rfl]
    by_cases h2 : j' = j
    · rw [if_pos h2, if_pos ⟨rfl, h2⟩]
    · rw [if_neg h2, if_neg (fun e => h2 e.2)]
  · rw [if_neg h, if_neg (fun e => h e.1)]
/-- While the row c is scaled. -/
def scl (M : Nat → Nat → F) (c : Nat) (b : F) (j i' j' : Nat) : F := if i' = c ∧ j' < j then M c j' * b else M i' j'
theorem scl_put (M : Nat → Nat → F) (c : Nat) (b : F) (j i' j' : Nat) : put (scl M c b j) c j (M c j * b) i' j' = scl M c b (j + 1) i' j' := by
  unfold put scl
  by_cases h : i' = c
  · subst h
    by_cases h2 : j' = j
    · subst h2; rw [if_pos ⟨rfl, rfl⟩, if_pos ⟨rfl, by omega⟩]
    · rw [if_neg (fun e => h2 e.2)]
      by_cases h3 : j' < j
      · rw [if_pos ⟨rfl, h3⟩, if_pos ⟨rfl, by omega⟩]
      · rw [if_neg (fun e => h3 e.2), if_neg (fun e => by omega)]
  · rw [if_neg (fun e => h e.1), if_neg (fun e => h e.1), if_neg (fun e => h e.1)]
/-- While a multiple of the row c is added to the row i. -/
def adr (M : Nat → Nat → F) (c i : Nat) (f : F) (j i' j' : Nat) : F := if i' = i ∧ j' < j then M i j' + f * M c j' else M i' j'
theorem adr_put (M : Nat → Nat → F) (c i : Nat) (f : F) (j i' j' : Nat) : put (adr M c i f j) i j (M i j + f * M c j) i' j' = adr M c i f (j + 1) i' j' := by
  unfold put adr
  by_cases h : i' = i
  · subst h
    by_cases h2 : j' = j
    · subst h2; rw [if_pos ⟨rfl, rfl⟩, if_pos ⟨rfl, by omega⟩]
    · rw [if_neg (fun e => h2 e.2)]
      by_cases h3 : j' < j
      · rw [if_pos ⟨rfl, h3⟩, if_pos ⟨rfl, by omega⟩]
      · rw [if_neg (fun e => h3 e.2), if_neg (fun e => by omega)]
  · rw [if_neg (fun e => h e.1), if_neg (fun e => h e.1), if_neg (fun e => h e.1)]
/-- Two rows exchanged. -/
def exc (M : Nat → Nat → F) (c k i j : Nat) : F := if i = k then M c j else if i = c then M k j else M i j
theorem exc_swp (M : Nat → Nat → F) (c k : Nat) (b : F) {N : Nat} (i j : Nat) (hj : j < N) : scl (exc M c k) c b N i j = swp M c k (fun j => M k j * b) i j := by
  have e : exc M c k c j = M k j := by
    unfold exc
    by_cases h : c = k
    · rw [if_pos h, h]
    · rw [if_neg h, if_pos rfl]
  unfold scl swp
  by_cases h : i = c
  · subst h; rw [if_pos ⟨rfl, hj⟩, if_pos rfl, e]
  · rw [if_neg (fun e => h e.1), if_neg h]
    unfold exc
    by_cases h2 : i = k
    · rw [if_pos h2, if_pos h2]
    · rw [if_neg h2, if_neg h2, if_neg h]
theorem cmb_nil (A : Nat → Nat → F) {c i : Nat} (y : Nat → F) (h0 : A i c = 0) (i' j : Nat) : cmb A c y i i' j = cmb A c y (i + 1) i' j := by
  unfold cmb
  by_cases h2 : i' < i ∧ i' ≠ c
  · rw [if_pos h2, if_pos ⟨by omega, h2.2⟩]
  · rw [if_neg h2]
    by_cases e : i' = i ∧ i' ≠ c
    · rw [if_pos ⟨by omega, e.2⟩, e.1, h0, F.zero_mul, F.add_zero]
    · rw [if_neg (fun e2 => by omega)]
theorem cmb_adr (A : Nat → Nat → F) {c i N : Nat} (y : Nat → F) (h : i ≠ c) (hy : ∀ j, A c j = y j) (i' j : Nat) (hj : j < N) : adr (cmb A c y i) c i (A i c) N i' j = cmb A c y (i + 1) i' j := by
  rw [← cmb_next A y h]
  unfold adr
  by_cases e : i' = i
  · subst e
    rw [if_pos ⟨rfl, hj⟩, if_pos rfl, cmb_row A c y (Nat.le_refl _)]
    congr 2
    unfold cmb
    rw [if_neg (fun e => e.2 rfl)]
    exact hy j
  · rw [if_neg (fun e2 => e e2.1), if_neg e]
/-- While the rows are built. -/
def bld (A : Nat → Nat → F) (R n i j : Nat) : List (List Int) := (List.range R).map fun i' => if i' < i then vec (n + 1) (fun t => (A i' t).v) else if i' = i then vec j (fun t => (A i' t).v) else []
theorem bld_len (A : Nat → Nat → F) (R n i j : Nat) : (bld A R n i j).length = R := by simp [bld]
theorem bld_at {A : Nat → Nat → F} {R n i j k : Nat} (h : k < R) : (bld A R n i j)[k]? = some (if k < i then vec (n + 1) (fun t => (A k t).v) else if k = i then vec j (fun t => (A k t).v) else []) := by
  unfold bld
  rw [List.getElem?_map, List.getElem?_range h]; rfl
theorem bld_row {A : Nat → Nat → F} {R n i j : Nat} (h : i < R) : (bld A R n i j).getD i [] = vec j (fun t => (A i t).v) := by
  rw [List.getD_eq_getElem?_getD, bld_at h, if_neg (Nat.lt_irrefl i), if_pos rfl]; rfl
theorem bld_step {A : Nat → Nat → F} {R n i j : Nat} (h : i < R) : (bld A R n i j).set i (vec (j + 1) (fun t => (A i t).v)) = bld A R n i (j + 1) := by
  apply List.ext_getElem?
  intro k
  by_cases hk : k < R
  · rw [bld_at hk]
    by_cases e : i = k
    · subst e
      rw [List.getElem?_set_self (by rw [bld_len]; exact h), if_neg (Nat.lt_irrefl _), if_pos rfl]
    · rw [List.getElem?_set_ne e, bld_at hk]
      by_cases h2 : k < i
      · rw [if_pos h2, if_pos h2]
      · rw [if_neg h2, if_neg h2, if_neg (fun h => e h.symm), if_neg (fun h => e h.symm)]
  · rw [List.getElem?_eq_none (by rw [List.length_set, bld_len]; omega), List.getElem?_eq_none (by rw [bld_len]; omega)]
theorem bld_next (A : Nat → Nat → F) (R n i : Nat) : bld A R n i (n + 1) = bld A R n (i + 1) 0 := by
  unfold bld
  refine List.map_congr_left fun k _ => ?_
  by_cases h : k < i
  · rw [if_pos h, if_pos (by omega)]
  · rw [if_neg h]
    by_cases e : k = i
    · rw [if_pos e, if_pos (by omega)]
    · rw [if_neg e, if_neg (by omega)]
      by_cases e2 : k = i + 1
      · rw [if_pos e2]; rfl
      · rw [if_neg e2]
theorem bld_done (A : Nat → Nat → F) (R n : Nat) : bld A R n R 0 = mat R (n + 1) A := by
  unfold bld mat
  exact List.map_congr_left fun k hk => by rw [if_pos (List.mem_range.1 hk)]
theorem bld_none (A : Nat → Nat → F) (R n : Nat) : List.replicate R ([] : List Int) = bld A R n 0 0 := by
  apply List.ext_getElem?
  intro k
  by_cases hk : k < R
  · rw [bld_at hk, List.getElem?_replicate, if_pos hk, if_neg (by omega)]
    by_cases e : k = 0
    · rw [if_pos e]; rfl
    · rw [if_neg e]
  · rw [List.getElem?_eq_none (by rw [List.length_replicate]; omega), List.getElem?_eq_none (by rw [bld_len]; omega)]
theorem mat_drop (R N n : Nat) (M : Nat → Nat → F) : (mat R N M).drop n = mat (R - n) N (fun i j => M (n + i) j) := by
  apply List.ext_getElem?
  intro k
  rw [List.getElem?_drop]
  by_cases hk : n + k < R
  · rw [mat_at hk, mat_at (by omega)]
  · rw [List.getElem?_eq_none (by rw [mat_len]; omega), List.getElem?_eq_none (by rw [mat_len]; omega)]
end Go.Proofs.Ytdcjfcfiflpblaa.Mtx
