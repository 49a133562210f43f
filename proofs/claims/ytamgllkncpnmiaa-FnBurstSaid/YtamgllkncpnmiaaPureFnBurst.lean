/- A burst of as many ones as there are rows, unwoven by rows that divide the length, is spread: for every code. -/
import Derived.Test.YtamgllkncpnmiaaPFnBurstx2
import Derived.Test.YtamgllkncpnmiaaCom
import Derived.Test.YtamgllkncpnmiaaWv
set_option linter.unusedVariables false
set_option linter.unusedSimpArgs false
namespace Go.Proofs.Ytamgllkncpnmiaa.Pure
open Go.RowKit Go.Proofs.Ytamgllkncpnmiaa.PFnBurst Go.Proofs.YtamgllkncpnmiaaW.PrintWords Go.Proofs.YtamgllkncpnmiaaW.PrintLast Go.Proofs.Ytamgllkncpnmiaa.Com Go.Proofs.Ytamgllkncpnmiaa.Wv

theorem big_eq (l : List Int) : laws_big.f l = some (decide ((l.length : Int) > 1048576)) := rfl

theorem at_ex (l : List Int) (i : Nat) (hi : i < 1000000) (hl : (l.length : Int) ≤ 1048576) (hw : ∀ x ∈ l, (Lit.int .u8 x).wf = true) : ∃ n : Nat, n < 256 ∧ laws_at.f l (i : Int) = some (n : Int) := by
  unfold laws_at.f
  by_cases h : i < l.length
  · have hb := wfb (hw _ (rd_mem h))
    refine ⟨(rd l (i : Int)).toNat, by omega, ?_⟩
    rw [if_pos (by omega), if_pos (by omega), w64 (by omega) (by omega), Int.toNat_of_nonneg hb.1]
  · refine ⟨(i * 7 + l.length) % 256, by omega, ?_⟩
    rw [if_neg (by omega), w64 (n := (i : Int) * 7) (by omega) (by omega), w64 (by omega) (by omega)]
    congr 1

theorem weaves_eq (l : List Int) (r : Int) : impl_weaves.f l r = some (decide (l.length ≤ 1024 ∧ 1 ≤ r ∧ r ≤ 64)) := by
  unfold impl_weaves.f
  by_cases h1 : (l.length : Int) ≤ 1024
  · rw [if_pos h1]
    by_cases h2 : r ≥ 1
    · rw [if_pos h2]; congr 1; rw [Bool.eq_iff_iff]; simp; omega
    · rw [if_neg h2]; congr 1; symm; rw [decide_eq_false_iff_not]; omega
  · rw [if_neg h1]; congr 1; symm; rw [decide_eq_false_iff_not]; omega

def toI (l : List Nat) : List Int := l.map (fun n : Nat => (n : Int))
theorem toI_app (l m : List Nat) : toI (l ++ m) = toI l ++ toI m := by simp [toI]
theorem iwoven_l1 (n rows per c : Nat) (hn : n ≤ 1024) (hr : rows ≤ 64) (hp : per ≤ 2048) (hc : c ≤ 2048) (x : Int) (R : List Int) : ∀ (d r : Nat) (acc : List Int), r + d = rows → acc.length ≤ 1000000 + r →
    Ev (fun k => impl_woven.l0 k (n : Int) (rows : Int) (per : Int) (acc ++ toI (wIn n per c d r)) x ((c + 1 : Nat) : Int)) R →
    Ev (fun k => impl_woven.l1 k (n : Int) (rows : Int) (per : Int) acc (c : Int) x (c : Int) (rows : Int) (r : Int)) R := by
  intro d
  induction d with
  | zero =>
    intro r acc hd ha h
    refine Ev.step (fun k => ?_) h
    rw [impl_woven.l1, if_neg (by omega), wsucc (by omega)]
    simp [wIn, toI]
  | succ d ih =>
    intro r acc hd ha h
    have hm : r * per ≤ 64 * 2048 := Nat.mul_le_mul (by omega) hp
    have e1 : wrap64 ((r : Int) * (per : Int)) = ((r * per : Nat) : Int) := by rw [← Int.natCast_mul, w64 (by omega) (by omega)]
    have e2 : wrap64 (((r * per : Nat) : Int) + (c : Int)) = ((r * per + c : Nat) : Int) := by rw [w64 (by omega) (by omega)]; omega
    unfold wIn at h
    by_cases hlt : r * per + c < n
    · rw [if_pos hlt] at h
      refine Ev.step (fun k => ?_) (ih (r + 1) (acc ++ [((r * per + c : Nat) : Int)]) (by omega) (by simp; omega) ?_)
      · rw [impl_woven.l1, if_pos (by omega), e1, e2, if_pos (by omega), if_pos (by omega), wsucc (by omega)]
      · rw [List.append_assoc]; exact h
    · rw [if_neg hlt] at h
      refine Ev.step (fun k => ?_) (ih (r + 1) acc (by omega) (by omega) h)
      rw [impl_woven.l1, if_pos (by omega), e1, e2, if_neg (by omega), wsucc (by omega)]
theorem iwoven_l0 (n rows per : Nat) (hn : n ≤ 1024) (hr : rows ≤ 64) (hp : per ≤ 2048) : ∀ (d c : Nat) (acc : List Int), c + d = per → acc.length ≤ c * rows →
    Ev (fun k => impl_woven.l0 k (n : Int) (rows : Int) (per : Int) acc (per : Int) (c : Int)) (acc ++ toI (wOut n rows per d c)) := by
  intro d
  induction d with
  | zero =>
    intro c acc hd ha
    refine Ev.fin (fun k => ?_)
    rw [impl_woven.l0, if_neg (by omega)]
    simp [wOut, toI]
  | succ d ih =>
    intro c acc hd ha
    have hm : c * rows ≤ 2048 * 64 := Nat.mul_le_mul (by omega) hr
    have hin := wIn_le n per c rows 0
    refine Ev.step (f := fun k => impl_woven.l1 k (n : Int) (rows : Int) (per : Int) acc (c : Int) (per : Int) (c : Int) (rows : Int) 0) (fun k => ?_) ?_
    · rw [impl_woven.l0, if_pos (by omega)]
    · refine iwoven_l1 n rows per c hn hr hp (by omega) _ _ rows 0 acc (by omega) (by omega) ?_
      refine Ev.cast (ih (c + 1) (acc ++ toI (wIn n per c rows 0)) (by omega) ?_) ?_
      · rw [List.length_append, Nat.succ_mul]; simp only [toI, List.length_map]; omega
      · rw [List.append_assoc, ← toI_app]; rfl
theorem iwoven_ev (n rows : Nat) (hn : n ≤ 1024) (hr0 : 1 ≤ rows) (hr : rows ≤ 64) : Ev (fun k => impl_woven.f k (n : Int) (rows : Int)) (toI (order n rows)) := by
  unfold impl_woven.f
  have hp : perOf n rows ≤ 2048 := by
    unfold perOf
    exact Nat.le_trans (Nat.div_le_self _ _) (by omega)
  have ew : wrap64 (Int.tdiv (wrap64 (wrap64 ((n : Int) + (rows : Int)) - 1)) (rows : Int)) = ((perOf n rows : Nat) : Int) := by
    rw [w64 (n := (n : Int) + (rows : Int)) (by omega) (by omega), w64 (n := (n : Int) + (rows : Int) - 1) (by omega) (by omega)]
    have e : (n : Int) + (rows : Int) - 1 = ((n + rows - 1 : Nat) : Int) := by omega
    rw [e]
    have e2 : Int.tdiv ((n + rows - 1 : Nat) : Int) (rows : Int) = ((perOf n rows : Nat) : Int) := rfl
    rw [e2, w64 (by omega) (by omega)]
  refine Ev.neg (by omega) ?_
  rw [ew]
  exact iwoven_l0 n rows _ hn hr hp (perOf n rows) 0 [] (by omega) (by simp)

/-- What unweaving writes: the k-th number goes to the k-th place of the order. -/
def putAll (l : List Int) : List Nat → Nat → List Int → List Int
  | [], _, out => out
  | p :: ps, k, out => putAll l ps (k + 1) (out.set p (rd l (k : Int)))
theorem putAll_length (l : List Int) : ∀ (ps : List Nat) (k : Nat) (out : List Int), (putAll l ps k out).length = out.length
  | [], _, _ => rfl
  | p :: ps, k, out => by unfold putAll; rw [putAll_length l ps]; simp
theorem rd_toI (ps : List Nat) (i : Nat) (h : i < ps.length) : rd (toI ps) (i : Int) = ((ps[i] : Nat) : Int) := by
  rw [rd_lt (by simpa [toI] using h)]; simp [toI]
theorem iUnweave_l0 (l : List Int) (ps : List Nat) (hl : l.length ≤ 1024) (hp : ps.length = l.length) (hb : ∀ p ∈ ps, p < l.length) : ∀ (d i : Nat) (out : List Int), i + d = ps.length → out.length = l.length →
    Ev (fun k => impl_Unweave.l0 k l out (toI ps) ((toI ps).length : Int) (i : Int)) (putAll l (ps.drop i) i out, true) := by
  intro d
  have htl : (toI ps).length = ps.length := by simp [toI]
  induction d with
  | zero =>
    intro i out hd ho
    refine Ev.fin (fun k => ?_)
    rw [impl_Unweave.l0, if_neg (by omega), List.drop_of_length_le (by omega)]
    rfl
  | succ d ih =>
    intro i out hd ho
    have hpi := hb _ (List.getElem_mem (l := ps) (n := i) (by omega))
    refine Ev.cast (Ev.step (fun k => ?_) (ih (i + 1) (out.set (ps[i]'(by omega)) (rd l (i : Int))) (by omega) (by simpa using ho))) ?_
    · rw [impl_Unweave.l0, if_pos (by omega), if_pos (by omega), if_pos (by omega), if_pos (by omega), rd_toI ps i (by omega), if_pos (by omega), if_pos (by omega), wsucc (by omega), Int.toNat_natCast]
    · rw [List.drop_eq_getElem_cons (by omega : i < ps.length)]; rfl
def unweaveM (l : List Int) (r : Int) : List Int × Bool := if l.length ≤ 1024 ∧ 1 ≤ r ∧ r ≤ 64 then (putAll l (order l.length r.toNat) 0 (List.replicate l.length 0), true) else ([], false)
theorem iUnweave_ev (l : List Int) (r : Int) (_hl : l.length ≤ 17592186044416) : Ev (fun k => impl_Unweave.f k l r) (unweaveM l r) := by
  unfold impl_Unweave.f unweaveM
  refine Ev.bind0 (weaves_eq l r) ?_
  by_cases h : l.length ≤ 1024 ∧ 1 ≤ r ∧ r ≤ 64
  · rw [if_pos h]
    obtain ⟨rows, rfl⟩ : ∃ n : Nat, r = n := ⟨r.toNat, by omega⟩
    refine Ev.pos (decide_eq_true h) (Ev.pos (by omega) (Ev.pos (by omega) (Ev.bind (iwoven_ev l.length rows h.1 (by omega) (by omega)) ?_)))
    exact iUnweave_l0 l (order l.length rows) h.1 (order_len (by omega)) (fun p hp => (order_mem (by omega) p).mp hp) (order l.length rows).length 0 _ (by omega) (by simp)
  · rw [if_neg h]
    exact Ev.neg (by simpa using h) (Ev.now _)
theorem unweaveM_len (l : List Int) (r : Int) : (unweaveM l r).1.length ≤ 1024 := by
  unfold unweaveM
  split
  · next h => simp only [putAll_length, List.length_replicate]; exact h.1
  · simp
/-- What stands at a place of the order, where no place stands twice. -/
theorem putAll_get (l : List Int) : ∀ (ps : List Nat) (k : Nat) (out : List Int), ps.Nodup → (∀ p ∈ ps, p < out.length) → ∀ j (hj : j < ps.length), (putAll l ps k out)[ps[j]]? = some (rd l ((k + j : Nat) : Int))
  | [], _, _, _, _, j, hj => by simp at hj
  | p :: ps, k, out, hn, hb, j, hj => by
    unfold putAll
    have hn2 := List.nodup_cons.mp hn
    cases j with
    | zero =>
      have key : ∀ (qs : List Nat) (m : Nat) (o : List Int), p ∉ qs → (putAll l qs m o)[p]? = o[p]? := by
        intro qs
        induction qs with
        | nil => intro m o _; rfl
        | cons q qs ih =>
          intro m o h
          unfold putAll
          rw [ih (m + 1) _ (fun hh => h (List.mem_cons_of_mem _ hh)), List.getElem?_set_ne (fun e => h (by rw [e]; exact List.mem_cons_self))]
      rw [List.getElem_cons_zero, key ps (k + 1) _ hn2.1, List.getElem?_set_self (hb p List.mem_cons_self)]
      simp
    | succ j =>
      rw [List.getElem_cons_succ, putAll_get l ps (k + 1) _ hn2.2 (fun q hq => by simpa using hb q (List.mem_cons_of_mem _ hq)) j (by simpa using hj), show k + 1 + j = k + (j + 1) by omega]

/-- Where the one of row r comes to stand. -/
def pos (rows long b r : Nat) : Nat := r * long + (if b % rows ≤ r then b / rows else b / rows + 1)
theorem cut_ok {rows long b : Nat} (hr : 0 < rows) (hb : b + rows ≤ rows * long) : b / rows < long ∧ (0 < b % rows → b / rows + 1 < long) := by
  have h1 := Nat.div_add_mod b rows
  generalize b / rows = c at *
  generalize b % rows = m at *
  constructor
  · rcases Nat.lt_or_ge c long with h | h
    · exact h
    · have := Nat.mul_le_mul_left rows h; omega
  · intro h0
    rcases Nat.lt_or_ge (c + 1) long with h | h
    · exact h
    · have := Nat.mul_le_mul_left rows h
      rw [Nat.mul_add] at this
      omega
theorem pos_off {rows long b r : Nat} (hr : 0 < rows) (hb : b + rows ≤ rows * long) : ∃ q, q < long ∧ pos rows long b r = r * long + q := by
  obtain ⟨h1, h2⟩ := cut_ok hr hb
  unfold pos
  split
  · exact ⟨_, h1, rfl⟩
  · exact ⟨_, h2 (by omega), rfl⟩
theorem pos_lt {rows long b r : Nat} (hr : r < rows) (hb : b + rows ≤ rows * long) : pos rows long b r < rows * long := by
  obtain ⟨q, hq, e⟩ := pos_off (r := r) (Nat.lt_of_le_of_lt (Nat.zero_le _) hr) hb
  have := Nat.mul_le_mul_right long hr
  rw [Nat.succ_mul] at this
  omega
theorem pos_next {rows long b r : Nat} (hr : 0 < rows) (hb : b + rows ≤ rows * long) : pos rows long b r + (long - 1) ≤ pos rows long b (r + 1) ∧ pos rows long b r < pos rows long b (r + 1) := by
  obtain ⟨h1, h2⟩ := cut_ok hr hb
  unfold pos
  rw [Nat.succ_mul]
  generalize b / rows = c at *
  generalize b % rows = m at *
  by_cases ha : m ≤ r
  · rw [if_pos ha, if_pos (by omega)]; omega
  · have := h2 (by omega)
    rw [if_neg ha]
    split <;> omega
theorem pos_mono {rows long b : Nat} (hr : 0 < rows) (hb : b + rows ≤ rows * long) {r s : Nat} (h : r < s) : pos rows long b r < pos rows long b s := by
  induction s with
  | zero => omega
  | succ s ih =>
    have h1 := (pos_next (r := s) hr hb).2
    rcases Nat.lt_or_ge r s with h2 | h2
    · exact Nat.lt_trans (ih h2) h1
    · obtain rfl : r = s := by omega
      exact h1
theorem div_of {x y z : Nat} (h : y < z) : (x * z + y) / z = x := by
  rw [Nat.mul_comm, Nat.mul_add_div (by omega), Nat.div_eq_of_lt h, Nat.add_zero]
theorem pos_row {rows long b : Nat} (hr : 0 < rows) (hb : b + rows ≤ rows * long) (r : Nat) : pos rows long b r / long = r := by
  obtain ⟨q, hq, e⟩ := pos_off (r := r) hr hb
  rw [e, div_of hq]
/-- The place q rows + r lies in the burst just where q is its row's. -/
theorem in_burst {rows b q r : Nat} (hr : r < rows) : (b ≤ q * rows + r ∧ q * rows + r < b + rows) ↔ q = (if b % rows ≤ r then b / rows else b / rows + 1) := by
  have h1 := Nat.div_add_mod b rows
  have h2 := Nat.mod_lt b (Nat.lt_of_le_of_lt (Nat.zero_le _) hr)
  generalize b / rows = c at *
  generalize b % rows = m at *
  rw [Nat.mul_comm q rows]
  have hlt : ∀ x y : Nat, x < y → rows * x + rows ≤ rows * y := by
    intro x y h
    have := Nat.mul_le_mul_left rows h
    rw [Nat.mul_succ] at this
    exact this
  rcases Nat.lt_trichotomy q c with h | h | h
  · have := hlt q c h
    constructor
    · intro hh; omega
    · intro hh; split at hh <;> omega
  · subst h
    constructor
    · intro hh; rw [if_pos (by omega)]
    · intro hh; split at hh <;> omega
  · rcases Nat.lt_trichotomy q (c + 1) with h3 | h3 | h3
    · omega
    · subst h3
      rw [Nat.mul_add]
      constructor
      · intro hh; rw [if_neg (by omega)]
      · intro hh; split at hh <;> omega
    · have := hlt (c + 1) q h3
      rw [Nat.mul_add] at this
      constructor
      · intro hh; omega
      · intro hh; split at hh <;> omega
theorem order_nodup (rows long : Nat) (hr : 0 < rows) : (order (rows * long) rows).Nodup := by
  have hl := order_len (n := rows * long) hr
  have get : ∀ k, (h : k < (order (rows * long) rows).length) → (order (rows * long) rows)[k] = k % rows * long + k / rows := by
    intro k h
    have hq : k / rows < long := by rw [Nat.div_lt_iff_lt_mul hr, Nat.mul_comm]; omega
    have := order_div rows long (k / rows) (k % rows) hq (Nat.mod_lt _ hr)
    rw [Nat.mul_comm (k / rows) rows, Nat.div_add_mod, List.getElem?_eq_getElem h] at this
    exact Option.some.inj this
  refine List.pairwise_iff_getElem.mpr ?_
  intro i j hi hj hij e
  rw [get i hi, get j hj] at e
  have q1 : i / rows < long := by rw [Nat.div_lt_iff_lt_mul hr, Nat.mul_comm]; omega
  have q2 : j / rows < long := by rw [Nat.div_lt_iff_lt_mul hr, Nat.mul_comm]; omega
  have d1 := Nat.div_add_mod i rows
  have d2 := Nat.div_add_mod j rows
  have em : i % rows = j % rows := by
    have a1 : (i % rows * long + i / rows) / long = i % rows := div_of q1
    have a2 : (j % rows * long + j / rows) / long = j % rows := div_of q2
    rw [← a1, ← a2, e]
  rw [em] at e
  have : i / rows = j / rows := by omega
  rw [this] at d1
  omega
theorem back_get {rows long b : Nat} (hr : 0 < rows) (L : List Int) (hL : ∀ k, k < rows * long → rd L (k : Int) = if b ≤ k ∧ k < b + rows then 1 else 0) (hlen : L.length = rows * long) (i : Nat) (hi : i < rows * long) :
    rd (putAll L (order (rows * long) rows) 0 (List.replicate (rows * long) 0)) (i : Int) = if i = pos rows long b (i / long) then 1 else 0 := by
  have hl0 : 0 < long := by
    rcases Nat.eq_zero_or_pos long with h | h
    · rw [h, Nat.mul_zero] at hi; omega
    · exact h
  have hr2 : i / long < rows := by rw [Nat.div_lt_iff_lt_mul hl0]; exact hi
  have hq := Nat.mod_lt i hl0
  have d := Nat.div_add_mod i long
  generalize i / long = r at *
  generalize i % long = q at *
  have hk : q * rows + r < rows * long := by
    have := Nat.mul_le_mul_left rows hq
    rw [Nat.mul_succ, Nat.mul_comm rows q] at this
    omega
  have hol := order_len (n := rows * long) hr
  have ho := order_div rows long q r hq hr2
  rw [List.getElem?_eq_getElem (by omega)] at ho
  have ho2 := Option.some.inj ho
  have hg := putAll_get L (order (rows * long) rows) 0 (List.replicate (rows * long) 0) (order_nodup rows long hr) (fun p hp => by simpa using (order_mem hr p).mp hp) (q * rows + r) (by omega)
  rw [ho2, show r * long + q = i by rw [Nat.mul_comm]; exact d, Nat.zero_add] at hg
  have e1 : rd (putAll L (order (rows * long) rows) 0 (List.replicate (rows * long) 0)) (i : Int) = rd L ((q * rows + r : Nat) : Int) := by
    have : ∀ (xs : List Int) (v : Int), xs[i]? = some v → rd xs (i : Int) = v := by
      intro xs v hv
      unfold rd
      rw [Int.toNat_natCast, List.getD_eq_getElem?_getD, hv]; rfl
    exact this _ _ hg
  rw [e1, hL _ hk]
  have hb := in_burst (b := b) (q := q) hr2
  unfold pos
  by_cases h : b ≤ q * rows + r ∧ q * rows + r < b + rows
  · have h2 := hb.mp h
    rw [if_pos h, if_pos (by rw [← h2, ← d, Nat.mul_comm])]
  · rw [if_neg h, if_neg (fun e => h (hb.mpr ?_))]
    rw [Nat.mul_comm] at d
    omega
theorem burst_l1 (rows long b : Nat) (hr : 0 < rows) (hr2 : rows ≤ 16) (hl : long ≤ 20) (hb : b + rows ≤ rows * long) (back : List Int) (hlen : back.length = rows * long)
    (hg : ∀ i, i < rows * long → rd back (i : Int) = if i = pos rows long b (i / long) then 1 else 0) : ∀ (d i m : Nat) (last : Int), i + d = rows * long → m ≤ rows → (m < rows → i ≤ pos rows long b m) → (m = 0 → last = -((rows * long : Nat) : Int)) →
    (∀ s, m = s + 1 → last = ((pos rows long b s : Nat) : Int) ∧ pos rows long b s < i) →
    Ev (fun k => laws_FnBurst.l1 k (rows : Int) (long : Int) ((rows * long : Nat) : Int) back last (m : Int) (i : Int)) true := by
  have hn : rows * long ≤ 16 * 20 := Nat.mul_le_mul hr2 hl
  intro d
  induction d with
  | zero =>
    intro i m last hd hm h1 h2 h3
    refine Ev.fin (fun k => ?_)
    rw [laws_FnBurst.l1, if_neg (by omega)]
    have : m = rows := by
      rcases Nat.lt_or_ge m rows with h | h
      · have a := h1 h
        have c := pos_lt (b := b) h hb
        omega
      · omega
    subst this
    simp
  | succ d ih =>
    intro i m last hd hm h1 h2 h3
    have hi : i < rows * long := by omega
    have hlong : 1 ≤ long := by
      rcases Nat.eq_zero_or_pos long with h | h
      · rw [h, Nat.mul_zero] at hi; omega
      · exact h
    have hrow : i / long < rows := by rw [Nat.div_lt_iff_lt_mul (by omega)]; exact hi
    have hgi := hg i hi
    have hback : ∀ x, i = pos rows long b x → i / long = x := by
      intro x hx
      rw [hx, pos_row hr hb]
    generalize i / long = r0 at *
    by_cases hp : i = pos rows long b r0
    · rw [if_pos hp] at hgi
      have hme : r0 = m := by
        rcases Nat.lt_trichotomy r0 m with h | h | h
        · obtain ⟨s, rfl⟩ : ∃ s, m = s + 1 := ⟨m - 1, by omega⟩
          have h4 := (h3 s rfl).2
          rcases Nat.lt_or_ge r0 s with h5 | h5
          · have := pos_mono (b := b) hr hb h5; omega
          · obtain rfl : r0 = s := by omega
            omega
        · exact h
        · have a := h1 (by omega)
          have c := pos_mono (b := b) hr hb h
          omega
      subst hme
      have hdist : ¬ wrap64 ((i : Int) - last) < wrap64 ((long : Int) - 1) := by
        rw [w64 (n := (long : Int) - 1) (by omega) (by omega)]
        cases r0 with
        | zero =>
          rw [h2 rfl, w64 (by omega) (by omega)]
          have : long ≤ rows * long := by
            have := Nat.mul_le_mul_right long hr
            omega
          omega
        | succ s =>
          obtain ⟨e, h4⟩ := h3 s rfl
          have := (pos_next (r := s) hr hb).1
          rw [e, w64 (by omega) (by omega)]
          omega
      refine Ev.step (fun k => ?_) (ih (i + 1) (r0 + 1) (i : Int) (by omega) (by omega) (fun h => ?_) (fun h => by omega) (fun s hs => ?_))
      · rw [laws_FnBurst.l1, if_pos (by omega), if_pos (by omega), if_pos (by omega), if_pos hgi, if_neg hdist, wsucc (by omega), wsucc (by omega)]
      · have := (pos_next (r := r0) hr hb).2; omega
      · obtain rfl : r0 = s := by omega
        exact ⟨by rw [← hp], by omega⟩
    · rw [if_neg hp] at hgi
      refine Ev.step (fun k => ?_) (ih (i + 1) m last (by omega) hm (fun h => ?_) h2 (fun s hs => ?_))
      · rw [laws_FnBurst.l1, if_pos (by omega), if_pos (by omega), if_pos (by omega), if_neg (by omega), wsucc (by omega)]
      · have a := h1 h
        rcases Nat.lt_or_ge i (pos rows long b m) with h5 | h5
        · omega
        · have e : i = pos rows long b m := by omega
          exfalso
          apply hp
          rw [hback m e]
          exact e
      · obtain ⟨e, h4⟩ := h3 s hs
        exact ⟨e, by omega⟩
theorem burst_l0 (rows long b : Nat) (hr : 0 < rows) (hr2 : rows ≤ 16) (hl0 : 0 < long) (hl : long ≤ 20) (hb : b + rows ≤ rows * long) : ∀ (d i : Nat) (L : List Int), i + d = rows → L.length = rows * long →
    (∀ k, k < rows * long → rd L (k : Int) = if b ≤ k ∧ k < b + i then 1 else 0) →
    Ev (fun k => laws_FnBurst.l0 k (rows : Int) (long : Int) ((rows * long : Nat) : Int) L (b : Int) (i : Int)) true := by
  have hn : rows * long ≤ 16 * 20 := Nat.mul_le_mul hr2 hl
  intro d
  induction d with
  | zero =>
    intro i L hd hL hg
    obtain rfl : i = rows := by omega
    refine Ev.step (fun k => by rw [laws_FnBurst.l0, if_neg (by omega)]) ?_
    have hu := iUnweave_ev L (i : Int) (by omega)
    have em : unweaveM L (i : Int) = (putAll L (order (i * long) i) 0 (List.replicate (i * long) 0), true) := by
      unfold unweaveM
      rw [if_pos (by omega), Int.toNat_natCast, hL]
    rw [em] at hu
    refine Ev.bind hu (Ev.pos rfl ?_)
    have hbl : (putAll L (order (i * long) i) 0 (List.replicate (i * long) 0)).length = i * long := by rw [putAll_length]; simp
    refine Ev.step (fun k => by rw [laws_FnBurst.j1, if_neg (by simp only [hbl]; simp)]) ?_
    rw [w64 (by omega) (by omega)]
    exact burst_l1 i long b hr hr2 hl hb _ hbl (fun j hj => back_get hr L hg hL j hj) (i * long) 0 0 _ (by omega) (by omega) (fun _ => Nat.zero_le _) (fun _ => rfl) (fun s h => by omega)
  | succ d ih =>
    intro i L hd hL hg
    have e : wrap64 ((b : Int) + (i : Int)) = ((b + i : Nat) : Int) := by rw [w64 (by omega) (by omega)]; omega
    refine Ev.step (fun k => ?_) (ih (i + 1) (L.set (b + i) 1) (by omega) (by simpa using hL) ?_)
    · rw [laws_FnBurst.l0, if_pos (by omega), e, if_pos (by omega), if_pos (by omega), wsucc (by omega), Int.toNat_natCast]
    · intro k hk
      have hk2 := hg k hk
      by_cases hkb : k = b + i
      · subst hkb
        rw [rd_lt (by simp; omega), List.getElem_set_self, if_pos (by omega)]
      · rw [rd_lt (by simp; omega), List.getElem_set_ne (by omega), ← rd_lt (by omega), hk2]
        by_cases h : b ≤ k ∧ k < b + i
        · rw [if_pos h, if_pos (by omega)]
        · rw [if_neg h, if_neg (by omega)]
theorem burst_wb (rows n : Nat) (hn : n ≤ 16 * 20) (hle : rows ≤ n) : wrap64 (wrap64 ((n : Int) - (rows : Int)) + 1) = ((n - rows + 1 : Nat) : Int) := by
  rw [w64 (n := (n : Int) - (rows : Int)) (by omega) (by omega), w64 (by omega) (by omega)]; omega
theorem FnBurst : laws_FnBurst.Pure := by
  intro l _ _ hw
  refine Ev.rounds ?_
  unfold laws_FnBurst.f
  refine Ev.bind0 (big_eq l) ?_
  by_cases hb : (l.length : Int) > 1048576
  · exact Ev.pos (by simpa using hb) (Ev.now true)
  refine Ev.neg (by simpa using hb) ?_
  obtain ⟨a0, ha0, e0⟩ := at_ex l 0 (by omega) (by omega) hw
  obtain ⟨a1, ha1, e1⟩ := at_ex l 1 (by omega) (by omega) hw
  obtain ⟨a2, ha2, e2⟩ := at_ex l 2 (by omega) (by omega) hw
  refine Ev.bind0 e0 (Ev.bind0 e1 ?_)
  have w0 : wrap64 (1 + Int.tmod (a0 : Int) 16) = ((1 + a0 % 16 : Nat) : Int) := by
    rw [show Int.tmod (a0 : Int) 16 = ((a0 % 16 : Nat) : Int) from rfl, w64 (by omega) (by omega)]; omega
  have w1 : wrap64 (1 + Int.tmod (a1 : Int) 20) = ((1 + a1 % 20 : Nat) : Int) := by
    rw [show Int.tmod (a1 : Int) 20 = ((a1 % 20 : Nat) : Int) from rfl, w64 (by omega) (by omega)]; omega
  have r1 : 0 < 1 + a0 % 16 := by omega
  have r2 : 1 + a0 % 16 ≤ 16 := by omega
  have l1 : 0 < 1 + a1 % 20 := by omega
  have l2 : 1 + a1 % 20 ≤ 20 := by omega
  generalize 1 + a0 % 16 = rows at *
  generalize 1 + a1 % 20 = long at *
  have hn : rows * long ≤ 16 * 20 := Nat.mul_le_mul r2 l2
  have hle : rows ≤ rows * long := by have := Nat.mul_le_mul_left rows l1; omega
  have wm : wrap64 ((rows : Int) * (long : Int)) = ((rows * long : Nat) : Int) := by rw [← Int.natCast_mul, w64 (by omega) (by omega)]
  have wb := burst_wb rows (rows * long) hn hle
  rw [w0, w1, wm, wb, Int.toNat_natCast]
  clear w0 w1 wm wb
  refine Ev.pos (by omega) (Ev.pos (by omega) (Ev.bind0 e2 (Ev.neg (by omega) ?_)))
  have et : ∀ q : Nat, Int.tmod (a2 : Int) (q : Int) = ((a2 % q : Nat) : Int) := fun _ => rfl
  rw [et]
  have hmod := Nat.mod_lt a2 (show 0 < rows * long - rows + 1 by omega)
  generalize a2 % (rows * long - rows + 1) = b at *
  have hfirst : ∀ k, k < rows * long → rd (List.replicate (rows * long) 0) (k : Int) = if b ≤ k ∧ k < b + 0 then 1 else 0 := by
    intro k hk
    rw [rd_lt (by simpa using hk), if_neg (by omega), List.getElem_replicate]
  exact burst_l0 rows long b r1 r2 l1 l2 (by omega) rows 0 (List.replicate (rows * long) 0) (by omega) (by simp) hfirst

end Go.Proofs.Ytamgllkncpnmiaa.Pure
