/- What the statement FnExactDecide asks of its functions, and its walk over any list of points. -/
import Derived.Test.YtnpoimjdkjhcpaaQFnExactDecidex5
namespace Go.Proofs.Ytnpoimjdkjhcpaa.PFnExactDecide
open Go.RowKit Go.Proofs.YtnpoimjdkjhcpaaW.PrintWords Go.Proofs.YtnpoimjdkjhcpaaW.PrintLast Go.Proofs.YtnpoimjdkjhcpaaW.PrintMore
set_option linter.unusedVariables false
def laws_FnExactDecide.Pure : Prop := ∀ (a0 : Int) (l1 : List S96), (Lit.int .i64 a0).wf = true → l1.length ≤ maxLen → ∃ k, laws_FnExactDecide.f k a0 l1 = some true
theorem laws_FnExactDecide.walk (P : laws_FnExactDecide.Pure) (a0 : Int) (a1 : Option Addr) (len1 cap1 : Nat) (l1 : List S96) (w : World) (wf0 : (Lit.int .i64 a0).wf = true) (e1 : l1.length = len1) (hl1 : len1 ≤ cap1) (hm1 : len1 ≤ maxLen) (w1 : Kd.C k96 w a1 len1 l1) :
    Calls Try.prog 7 #[.int .i64 a0, .slice a1 len1 cap1] w fun e w' => e = .returned (.bool true) ∧ Below w.heap.size w w' := by
  subst e1
  obtain ⟨k, h⟩ := P a0 l1 wf0 hm1
  refine (laws_FnExactDecide.calls k a0 _ _ l1 true w w1 hl1 h).mono ?_
  rintro e w' ⟨rfl, hd⟩
  exact ⟨rfl, hd⟩
end Go.Proofs.Ytnpoimjdkjhcpaa.PFnExactDecide
