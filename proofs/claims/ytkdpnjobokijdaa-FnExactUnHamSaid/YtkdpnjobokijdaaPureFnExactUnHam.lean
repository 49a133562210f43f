/- UnHam tells what the reference tells, for every whole number; no condition. -/
import Derived.Test.YtkdpnjobokijdaaQFnExactUnHamx1
import Derived.Test.YtkdpnjobokijdaaCom
import Derived.Test.YtkdpnjobokijdaaHm
set_option linter.unusedVariables false
set_option linter.unusedSimpArgs false
namespace Go.Proofs.Ytkdpnjobokijdaa.Pure
open Go.RowKit Go.Proofs.Ytkdpnjobokijdaa.PFnExactUnHam Go.Proofs.YtkdpnjobokijdaaW.PrintWords Go.Proofs.YtkdpnjobokijdaaW.PrintLast Go.Proofs.Ytkdpnjobokijdaa.Com Go.Proofs.Ytkdpnjobokijdaa.Hm

theorem iHam_tab : ((List.range 16).all fun n => impl_Ham.f 3 (n : Int) == some ((hamT n : Nat) : Int)) = true := by decide +kernel
theorem iHam_in {n : Nat} (h : n < 16) : Ev (fun k => impl_Ham.f k (n : Int)) ((hamT n : Nat) : Int) :=
  Ev.of (fun k => impl_Ham.mono _ k) (eq_of_beq (List.all_eq_true.mp iHam_tab n (List.mem_range.mpr h)))
theorem iHam_ev (a : Int) : Ev (fun k => impl_Ham.f k a) (hamM a) := by
  unfold hamM
  by_cases h : 0 ≤ a ∧ a ≤ 15
  · rw [if_pos h]
    obtain ⟨n, rfl⟩ : ∃ n : Nat, a = n := ⟨a.toNat, by omega⟩
    exact iHam_in (by omega)
  · rw [if_neg h]
    unfold impl_Ham.f
    by_cases h0 : a < 0
    · exact Ev.pos h0 (Ev.fin (fun k => by rw [impl_Ham.j0]; rfl))
    · refine Ev.neg h0 (Ev.fin (fun k => ?_))
      rw [impl_Ham.j0, if_pos (by simp; omega)]

theorem OC_tab : ((List.range 256).all fun n => bits_OnesCount.f (n : Int) == some ((ones 8 n : Nat) : Int)) = true := by decide +kernel
theorem OC_eq {n : Nat} (h : n < 256) : bits_OnesCount.f (n : Int) = some ((ones 8 n : Nat) : Int) := by
  have := List.all_eq_true.mp OC_tab n (List.mem_range.mpr h)
  exact eq_of_beq this

theorem iUnHam_l0 (w : Nat) (hw : w < 256) : ∀ (d i : Nat), i + d = 16 → Ev (fun k => impl_UnHam.l0 k (w : Int) (i : Int)) (unhamG w d i) := by
  intro d
  induction d with
  | zero =>
    intro i hd
    exact Ev.fin (fun k => by rw [impl_UnHam.l0, if_neg (by omega)]; rfl)
  | succ d ih =>
    intro i hd
    have hh := hamT_lt (n := i) (by omega)
    have hx : hamT i ^^^ w < 256 := Nat.xor_lt_two_pow (n := 8) hh hw
    refine Ev.step (fun k => by rw [impl_UnHam.l0, if_pos (by omega)]) (Ev.bind (iHam_in (by omega)) ?_)
    rw [xor64 _ _ (by omega) (by omega), u64w (by omega) (by omega)]
    refine Ev.bind0 (OC_eq hx) ?_
    unfold unhamG
    by_cases h1 : ones 8 (hamT i ^^^ w) ≤ 1
    · rw [if_pos h1]
      exact Ev.pos (by omega) (Ev.now _)
    · rw [if_neg h1]
      refine Ev.neg (by omega) ?_
      rw [wsucc (by omega)]
      exact ih (i + 1) (by omega)
theorem iUnHam_ev (a : Int) : Ev (fun k => impl_UnHam.f k a) (unhamM a) := by
  unfold impl_UnHam.f unhamM
  by_cases h0 : a ≥ 0
  · refine Ev.pos h0 ?_
    by_cases h1 : a ≤ 255
    · rw [if_pos ⟨h0, h1⟩, decide_eq_true h1]
      obtain ⟨n, rfl⟩ : ∃ n : Nat, a = n := ⟨a.toNat, by omega⟩
      exact Ev.step (fun k => by rw [impl_UnHam.j0, if_pos rfl]; rfl) (iUnHam_l0 n (by omega) 16 0 (by omega))
    · rw [if_neg (by omega), decide_eq_false h1]
      exact Ev.fin (fun k => by rw [impl_UnHam.j0]; rfl)
  · rw [if_neg (by omega)]
    exact Ev.neg h0 (Ev.fin (fun k => by rw [impl_UnHam.j0]; rfl))

theorem l1In_eq (a b c : Int) : spec_l1In.f a b c = some (decide (b ≤ a ∧ a ≤ c)) := by
  unfold spec_l1In.f
  by_cases h : b ≤ a
  · rw [if_pos h]; simp [h]
  · rw [if_neg h]; simp [h]

theorem sHam_tab : ((List.range 16).all fun n => spec_Ham.f 12 (n : Int) == some ((hamT n : Nat) : Int)) = true := by decide +kernel
theorem sHam_ev (a : Int) : Ev (fun k => spec_Ham.f k a) (hamM a) := by
  unfold hamM
  by_cases h : 0 ≤ a ∧ a ≤ 15
  · rw [if_pos h]
    obtain ⟨n, rfl⟩ : ∃ n : Nat, a = n := ⟨a.toNat, by omega⟩
    exact Ev.of (fun k => spec_Ham.mono _ k) (eq_of_beq (List.all_eq_true.mp sHam_tab n (List.mem_range.mpr (by omega))))
  · rw [if_neg h]
    unfold spec_Ham.f
    exact Ev.bind0 (l1In_eq _ _ _) (Ev.neg (by simpa using h) (Ev.now 0))

theorem sOnes_tab : ((List.range 256).all fun n => spec_l14Ones.f 10 (n : Int) == some ((ones 8 n : Nat) : Int)) = true := by decide +kernel
theorem sOnes_ev {n : Nat} (h : n < 256) : Ev (fun k => spec_l14Ones.f k (n : Int)) ((ones 8 n : Nat) : Int) :=
  Ev.of (fun k => spec_l14Ones.mono _ k) (eq_of_beq (List.all_eq_true.mp sOnes_tab n (List.mem_range.mpr h)))
theorem hamM_in {n : Nat} (h : n < 16) : hamM (n : Int) = ((hamT n : Nat) : Int) := by
  unfold hamM; rw [if_pos (by omega), Int.toNat_natCast]
theorem sUnHam_l0 (w : Nat) (hw : w < 256) : ∀ (d i : Nat), i + d = 16 → Ev (fun k => spec_UnHam.l0 k (w : Int) (i : Int)) (unhamG w d i) := by
  intro d
  induction d with
  | zero =>
    intro i hd
    exact Ev.fin (fun k => by rw [spec_UnHam.l0, if_neg (by omega)]; rfl)
  | succ d ih =>
    intro i hd
    have hh := hamT_lt (n := i) (by omega)
    have hx : hamT i ^^^ w < 256 := Nat.xor_lt_two_pow (n := 8) hh hw
    refine Ev.step (fun k => by rw [spec_UnHam.l0, if_pos (by omega)]) (Ev.bind (sHam_ev _) ?_)
    rw [hamM_in (by omega), xor64 _ _ (by omega) (by omega)]
    refine Ev.bind (sOnes_ev hx) ?_
    unfold unhamG
    by_cases h1 : ones 8 (hamT i ^^^ w) ≤ 1
    · rw [if_pos h1]
      exact Ev.pos (by omega) (Ev.now _)
    · rw [if_neg h1]
      refine Ev.neg (by omega) ?_
      rw [wsucc (by omega)]
      exact ih (i + 1) (by omega)
theorem sUnHam_ev (a : Int) : Ev (fun k => spec_UnHam.f k a) (unhamM a) := by
  unfold spec_UnHam.f unhamM
  refine Ev.bind0 (l1In_eq _ _ _) ?_
  by_cases h : 0 ≤ a ∧ a ≤ 255
  · rw [if_pos h]
    obtain ⟨n, rfl⟩ : ∃ n : Nat, a = n := ⟨a.toNat, by omega⟩
    exact Ev.pos (decide_eq_true h) (sUnHam_l0 n (by omega) 16 0 (by omega))
  · rw [if_neg h]
    exact Ev.neg (by simpa using h) (Ev.now _)

theorem FnExactUnHam : laws_FnExactUnHam.Pure := by
  intro a _
  refine Ev.rounds ?_
  unfold laws_FnExactUnHam.f
  exact Ev.bind (sUnHam_ev a) (Ev.bind (iUnHam_ev a) (Ev.pos rfl (Ev.pos rfl (Ev.now true))))

end Go.Proofs.Ytkdpnjobokijdaa.Pure
