/- A Ham word with one bit turned is mended, with two it is told; words of two numbers differ in at least four bits: for every code. -/
import Derived.Test.YtamgllkncpnmiaaQFnHamx2
import Derived.Test.YtamgllkncpnmiaaCom
import Derived.Test.YtamgllkncpnmiaaHm
set_option linter.unusedVariables false
set_option linter.unusedSimpArgs false
namespace Go.Proofs.Ytamgllkncpnmiaa.Pure
open Go.RowKit Go.Proofs.Ytamgllkncpnmiaa.PFnHam Go.Proofs.YtamgllkncpnmiaaW.PrintWords Go.Proofs.YtamgllkncpnmiaaW.PrintLast Go.Proofs.Ytamgllkncpnmiaa.Com Go.Proofs.Ytamgllkncpnmiaa.Hm

theorem big_eq (l : List Int) : laws_big.f l = some (decide ((l.length : Int) > 1048576)) := rfl

theorem at_ex (l : List Int) (i : Nat) (hi : i < 1000000) (hl : (l.length : Int) ≤ 1048576) (hw : ∀ x ∈ l, (Lit.int .u8 x).wf = true) : ∃ n : Nat, n < 256 ∧ laws_at.f l (i : Int) = some (n : Int) := by
  unfold laws_at.f
  by_cases h : i < l.length
  · have hb := wfb (hw _ (rd_mem h))
    refine ⟨(rd l (i : Int)).toNat, by omega, ?_⟩
    rw [if_pos (by omega), if_pos (by omega), w64 (by omega) (by omega), Int.toNat_of_nonneg hb.1]
  · refine ⟨(i * 7 + l.length) % 256, by omega, ?_⟩
    rw [if_neg (by omega), w64 (n := (i : Int) * 7) (by omega) (by omega), w64 (by omega) (by omega)]
    congr 1

theorem iHam_tab : ((List.range 16).all fun n => impl_Ham.f 3 (n : Int) == some ((hamT n : Nat) : Int)) = true := by decide +kernel
theorem iHam_in {n : Nat} (h : n < 16) : Ev (fun k => impl_Ham.f k (n : Int)) ((hamT n : Nat) : Int) :=
  Ev.of (fun k => impl_Ham.mono _ k) (eq_of_beq (List.all_eq_true.mp iHam_tab n (List.mem_range.mpr h)))
theorem iHam_ev (a : Int) : Ev (fun k => impl_Ham.f k a) (hamM a) := by
  unfold hamM
  by_cases h : 0 ≤ a ∧ a ≤ 15
  · rw [if_pos h]
    obtain ⟨n, rfl⟩ : ∃ n : Nat, a = n := ⟨a.toNat, by omega⟩
    exact iHam_in (by omega)
  · rw [if_neg h]
    unfold impl_Ham.f
    by_cases h0 : a < 0
    · exact Ev.pos h0 (Ev.fin (fun k => by rw [impl_Ham.j0]; rfl))
    · refine Ev.neg h0 (Ev.fin (fun k => ?_))
      rw [impl_Ham.j0, if_pos (by simp; omega)]

theorem OC_tab : ((List.range 256).all fun n => bits_OnesCount.f (n : Int) == some ((ones 8 n : Nat) : Int)) = true := by decide +kernel
theorem OC_eq {n : Nat} (h : n < 256) : bits_OnesCount.f (n : Int) = some ((ones 8 n : Nat) : Int) := by
  have := List.all_eq_true.mp OC_tab n (List.mem_range.mpr h)
  exact eq_of_beq this

theorem iUnHam_l0 (w : Nat) (hw : w < 256) : ∀ (d i : Nat), i + d = 16 → Ev (fun k => impl_UnHam.l0 k (w : Int) (i : Int)) (unhamG w d i) := by
  intro d
  induction d with
  | zero =>
    intro i hd
    exact Ev.fin (fun k => by rw [impl_UnHam.l0, if_neg (by omega)]; rfl)
  | succ d ih =>
    intro i hd
    have hh := hamT_lt (n := i) (by omega)
    have hx : hamT i ^^^ w < 256 := Nat.xor_lt_two_pow (n := 8) hh hw
    refine Ev.step (fun k => by rw [impl_UnHam.l0, if_pos (by omega)]) (Ev.bind (iHam_in (by omega)) ?_)
    rw [xor64 _ _ (by omega) (by omega), u64w (by omega) (by omega)]
    refine Ev.bind0 (OC_eq hx) ?_
    unfold unhamG
    by_cases h1 : ones 8 (hamT i ^^^ w) ≤ 1
    · rw [if_pos h1]
      exact Ev.pos (by omega) (Ev.now _)
    · rw [if_neg h1]
      refine Ev.neg (by omega) ?_
      rw [wsucc (by omega)]
      exact ih (i + 1) (by omega)
theorem iUnHam_ev (a : Int) : Ev (fun k => impl_UnHam.f k a) (unhamM a) := by
  unfold impl_UnHam.f unhamM
  by_cases h0 : a ≥ 0
  · refine Ev.pos h0 ?_
    by_cases h1 : a ≤ 255
    · rw [if_pos ⟨h0, h1⟩, decide_eq_true h1]
      obtain ⟨n, rfl⟩ : ∃ n : Nat, a = n := ⟨a.toNat, by omega⟩
      exact Ev.step (fun k => by rw [impl_UnHam.j0, if_pos rfl]; rfl) (iUnHam_l0 n (by omega) 16 0 (by omega))
    · rw [if_neg (by omega), decide_eq_false h1]
      exact Ev.fin (fun k => by rw [impl_UnHam.j0]; rfl)
  · rw [if_neg (by omega)]
    exact Ev.neg h0 (Ev.fin (fun k => by rw [impl_UnHam.j0]; rfl))

theorem ham_loop (x3 x4 x6 x7 x8 x9 x10 x11 x12 x13 : Int) (R : Bool) : ∀ (f v acc : Nat), v < 2 ^ f → f ≤ 8 → acc + f ≤ 100 →
    Ev (fun k => laws_FnHam.l0 k x3 x4 x6 x7 x8 x9 x10 x11 x12 x13 ((acc + ones f v : Nat) : Int) 0) R →
    Ev (fun k => laws_FnHam.l0 k x3 x4 x6 x7 x8 x9 x10 x11 x12 x13 (acc : Int) (v : Int)) R := by
  have zero : ∀ f, ones f 0 = 0 := by
    intro f
    induction f with
    | zero => rfl
    | succ f ih => unfold ones; rw [ih]
  intro f
  induction f with
  | zero =>
    intro v acc hv _ _ h
    obtain rfl : v = 0 := by omega
    exact h
  | succ f ih =>
    intro v acc hv hf ha h
    by_cases h0 : v = 0
    · subst h0
      rw [zero, Nat.add_zero] at h
      exact h
    · have hp : 2 ^ (f + 1) = 2 * 2 ^ f := by rw [Nat.pow_succ]; omega
      have h8 : 2 ^ (f + 1) ≤ 2 ^ 8 := Nat.pow_le_pow_right (by omega) hf
      refine Ev.step (fun k => ?_) (ih (v / 2) (acc + v % 2) (by omega) (by omega) (by omega) ?_)
      · rw [laws_FnHam.l0, if_pos (by omega), show Int.tmod (v : Int) 2 = ((v % 2 : Nat) : Int) from rfl, show Int.tdiv (v : Int) 2 = ((v / 2 : Nat) : Int) from rfl, w64 (by omega) (by omega), w64 (by omega) (by omega)]
        rfl
      · unfold ones at h
        rw [Nat.add_assoc]
        exact h
theorem FnHam : laws_FnHam.Pure := by
  intro l _ _ hw
  refine Ev.rounds ?_
  unfold laws_FnHam.f
  refine Ev.bind0 (big_eq l) ?_
  by_cases hb : (l.length : Int) > 1048576
  · exact Ev.pos (by simpa using hb) (Ev.now true)
  refine Ev.neg (by simpa using hb) ?_
  obtain ⟨a0, ha0, e0⟩ := at_ex l 0 (by omega) (by omega) hw
  obtain ⟨a1, ha1, e1⟩ := at_ex l 1 (by omega) (by omega) hw
  obtain ⟨a2, ha2, e2⟩ := at_ex l 2 (by omega) (by omega) hw
  obtain ⟨a3, ha3, e3⟩ := at_ex l 3 (by omega) (by omega) hw
  have t0 : Int.tmod (a0 : Int) 16 = ((a0 % 16 : Nat) : Int) := rfl
  have t1 : Int.tmod (a1 : Int) 16 = ((a1 % 16 : Nat) : Int) := rfl
  have t2 : Int.tmod (a2 : Int) 8 = ((a2 % 8 : Nat) : Int) := rfl
  have t3 : Int.tmod (a3 : Int) 8 = ((a3 % 8 : Nat) : Int) := rfl
  have hn : a0 % 16 < 16 := by omega
  have hm : a1 % 16 < 16 := by omega
  have ha : a2 % 8 < 8 := by omega
  have hb : a3 % 8 < 8 := by omega
  refine Ev.bind0 e0 (Ev.bind0 e1 ?_)
  rw [t0, t1]
  generalize a0 % 16 = n at *
  generalize a1 % 16 = m at *
  refine Ev.bind (iHam_in hn) (Ev.bind0 e2 (Ev.bind0 e3 ?_))
  rw [t2, t3]
  generalize a2 % 8 = a at *
  generalize a3 % 8 = b at *
  have shl1 : ∀ a : Nat, a < 8 → shl .i64 1 (a : Int) = ((2 ^ a : Nat) : Int) ∧ 2 ^ a < 256 := by
    intro a ha
    have h2 : 2 ^ a < 2 ^ 8 := Nat.pow_lt_pow_right (by omega) ha
    refine ⟨?_, by omega⟩
    unfold shl
    rw [Int.toNat_natCast, show min a (IntKind.bits .i64) = a from Nat.min_eq_left (by show a ≤ 64; omega), Int.one_mul, IntKind.wrap_i64]
    have e : (2 : Int) ^ a = ((2 ^ a : Nat) : Int) := by simp
    rw [e]
    generalize 2 ^ a = p at *
    omega
  obtain ⟨sa, la⟩ := shl1 a ha
  obtain ⟨sb, lb⟩ := shl1 b hb
  have hh := hamT_lt hn
  have hh2 := hamT_lt hm
  have x1 : hamT n ^^^ 2 ^ a < 256 := Nat.xor_lt_two_pow (n := 8) hh la
  have x2 : hamT n ^^^ 2 ^ a ^^^ 2 ^ b < 256 := Nat.xor_lt_two_pow (n := 8) x1 lb
  have x3 : hamT n ^^^ hamT m < 256 := Nat.xor_lt_two_pow (n := 8) hh hh2
  have un : ∀ w : Nat, w < 256 → unhamM (w : Int) = unhamT w := by
    intro w hw
    unfold unhamM
    rw [if_pos (by omega), Int.toNat_natCast]
  rw [u64w (by omega) (by omega), u64w (by omega) (by omega), sa, sb, xor64 _ _ (by omega) (by omega), xor64 _ _ (by omega) (by omega)]
  refine Ev.pos (by omega) (Ev.bind (iUnHam_ev _) (Ev.pos (by omega) (Ev.bind (iUnHam_ev _) (Ev.bind (iUnHam_ev _) (Ev.bind (iHam_in hm) ?_)))))
  rw [xor64 _ _ (by omega) (by omega), un _ x1, un _ x2, un _ hh, unham_one n hn a ha, unham_none n hn]
  refine ham_loop _ _ _ _ _ _ _ _ _ _ true 8 (hamT n ^^^ hamT m) 0 (by omega) (by omega) (by omega) (Ev.fin (fun k => ?_))
  rw [laws_FnHam.l0, if_neg (by omega), if_pos rfl, if_pos rfl, if_pos rfl, if_pos rfl, Nat.zero_add]
  have last : (if ((((n : Int) == (m : Int)) == (((ones 8 (hamT n ^^^ hamT m) : Nat) : Int) == 0)) = true) then (if (n : Int) = (m : Int) then (some true) else (some (decide (((ones 8 (hamT n ^^^ hamT m) : Nat) : Int) ≥ 4)))) else (some false)) = some true := by
    rcases ham_far n hn m hm with ⟨rfl, h⟩ | ⟨hne, h⟩
    · rw [h]; simp
    · rw [if_pos, if_neg (by omega)]
      · congr 1; exact decide_eq_true (by omega)
      · have h1 : ((n : Int) == (m : Int)) = false := by simp; omega
        have h2 : (((ones 8 (hamT n ^^^ hamT m) : Nat) : Int) == 0) = false := by simp; omega
        rw [h1, h2]; rfl
  by_cases hab : a = b
  · subst hab
    have ex : hamT n ^^^ 2 ^ a ^^^ 2 ^ a = hamT n := by rw [Nat.xor_assoc, Nat.xor_self, Nat.xor_zero]
    rw [ex, unham_none n hn, if_pos rfl, if_pos rfl, if_pos rfl]
    exact last
  · rw [unham_two n hn a ha b hb hab, if_neg (by omega), if_pos rfl, if_pos rfl]
    exact last

end Go.Proofs.Ytamgllkncpnmiaa.Pure
