/- Gray tells what the reference tells, for every whole number; no condition. -/
import Derived.Test.YtamgllkncpnmiaaPFnExactGrayx1
import Derived.Test.YtamgllkncpnmiaaCom
set_option linter.unusedVariables false
set_option linter.unusedSimpArgs false
namespace Go.Proofs.Ytamgllkncpnmiaa.Pure
open Go.RowKit Go.Proofs.Ytamgllkncpnmiaa.PFnExactGray Go.Proofs.YtamgllkncpnmiaaW.PrintWords Go.Proofs.YtamgllkncpnmiaaW.PrintLast Go.Proofs.Ytamgllkncpnmiaa.Com

theorem l1In_eq (a b c : Int) : spec_l1In.f a b c = some (decide (b ≤ a ∧ a ≤ c)) := by
  unfold spec_l1In.f
  by_cases h : b ≤ a
  · rw [if_pos h]; simp [h]
  · rw [if_neg h]; simp [h]

theorem FnExactGray : laws_FnExactGray.Pure := by
  intro a _
  have hs : spec_Gray.f a = impl_Gray.f a := by
    unfold spec_Gray.f impl_Gray.f
    rw [l1In_eq, Option.bind_some]
    by_cases h : 0 ≤ a ∧ a ≤ 4000000000000000000
    · rw [decide_eq_true h, if_pos rfl, if_neg (by omega), if_neg (by omega), Int.tdiv_eq_ediv_of_nonneg h.1, w64 (by omega) (by omega)]
    · rw [decide_eq_false h, if_neg (by decide)]
      by_cases h0 : a < 0
      · rw [if_pos h0]
      · rw [if_neg h0, if_pos (by omega)]
  have hr : ∃ r, impl_Gray.f a = some r := by
    unfold impl_Gray.f
    split
    · exact ⟨_, rfl⟩
    · split <;> exact ⟨_, rfl⟩
  obtain ⟨r, hr⟩ := hr
  unfold laws_FnExactGray.f
  rw [hs, hr]
  simp

end Go.Proofs.Ytamgllkncpnmiaa.Pure
