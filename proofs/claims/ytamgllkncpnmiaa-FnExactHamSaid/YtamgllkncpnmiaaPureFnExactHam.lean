/- Ham tells what the reference tells, for every whole number; no condition. -/
import Derived.Test.YtamgllkncpnmiaaQFnExactHamx1
import Derived.Test.YtamgllkncpnmiaaCom
import Derived.Test.YtamgllkncpnmiaaHm
set_option linter.unusedVariables false
set_option linter.unusedSimpArgs false
namespace Go.Proofs.Ytamgllkncpnmiaa.Pure
open Go.RowKit Go.Proofs.Ytamgllkncpnmiaa.PFnExactHam Go.Proofs.YtamgllkncpnmiaaW.PrintWords Go.Proofs.YtamgllkncpnmiaaW.PrintLast Go.Proofs.Ytamgllkncpnmiaa.Com Go.Proofs.Ytamgllkncpnmiaa.Hm

theorem l1In_eq (a b c : Int) : spec_l1In.f a b c = some (decide (b ≤ a ∧ a ≤ c)) := by
  unfold spec_l1In.f
  by_cases h : b ≤ a
  · rw [if_pos h]; simp [h]
  · rw [if_neg h]; simp [h]

theorem sHam_tab : ((List.range 16).all fun n => spec_Ham.f 12 (n : Int) == some ((hamT n : Nat) : Int)) = true := by decide +kernel
theorem sHam_ev (a : Int) : Ev (fun k => spec_Ham.f k a) (hamM a) := by
  unfold hamM
  by_cases h : 0 ≤ a ∧ a ≤ 15
  · rw [if_pos h]
    obtain ⟨n, rfl⟩ : ∃ n : Nat, a = n := ⟨a.toNat, by omega⟩
    exact Ev.of (fun k => spec_Ham.mono _ k) (eq_of_beq (List.all_eq_true.mp sHam_tab n (List.mem_range.mpr (by omega))))
  · rw [if_neg h]
    unfold spec_Ham.f
    exact Ev.bind0 (l1In_eq _ _ _) (Ev.neg (by simpa using h) (Ev.now 0))

theorem iHam_tab : ((List.range 16).all fun n => impl_Ham.f 3 (n : Int) == some ((hamT n : Nat) : Int)) = true := by decide +kernel
theorem iHam_in {n : Nat} (h : n < 16) : Ev (fun k => impl_Ham.f k (n : Int)) ((hamT n : Nat) : Int) :=
  Ev.of (fun k => impl_Ham.mono _ k) (eq_of_beq (List.all_eq_true.mp iHam_tab n (List.mem_range.mpr h)))
theorem iHam_ev (a : Int) : Ev (fun k => impl_Ham.f k a) (hamM a) := by
  unfold hamM
  by_cases h : 0 ≤ a ∧ a ≤ 15
  · rw [if_pos h]
    obtain ⟨n, rfl⟩ : ∃ n : Nat, a = n := ⟨a.toNat, by omega⟩
    exact iHam_in (by omega)
  · rw [if_neg h]
    unfold impl_Ham.f
    by_cases h0 : a < 0
    · exact Ev.pos h0 (Ev.fin (fun k => by rw [impl_Ham.j0]; rfl))
    · refine Ev.neg h0 (Ev.fin (fun k => ?_))
      rw [impl_Ham.j0, if_pos (by simp; omega)]

theorem FnExactHam : laws_FnExactHam.Pure := by
  intro a _
  refine Ev.rounds ?_
  unfold laws_FnExactHam.f
  exact Ev.bind (sHam_ev a) (Ev.bind (iHam_ev a) (Ev.pos rfl (Ev.now true)))

end Go.Proofs.Ytamgllkncpnmiaa.Pure
