/- What the statement FnExactChain asks of its functions, and its walk over any list of sections. -/
import Derived.Test.YtnpoimjdkjhcpaaQFnExactChainx5
namespace Go.Proofs.Ytnpoimjdkjhcpaa.PFnExactChain
open Go.RowKit Go.Proofs.YtnpoimjdkjhcpaaW.PrintWords Go.Proofs.YtnpoimjdkjhcpaaW.PrintLast Go.Proofs.YtnpoimjdkjhcpaaW.PrintMore
set_option linter.unusedVariables false
def laws_FnExactChain.Pure : Prop := ∀ (l0 : List S115) (l1 : List Int), l0.length ≤ maxLen → ∃ k, laws_FnExactChain.f k l0 l1 = some true
theorem laws_FnExactChain.walk (P : laws_FnExactChain.Pure) (a0 : Option Addr) (len0 cap0 : Nat) (l0 : List S115) (a1 : Option Addr) (len1 cap1 : Nat) (z1 : List Int) (w : World) (e0 : l0.length = len0) (hl0 : len0 ≤ cap0) (hm0 : len0 ≤ maxLen) (w0 : Kd.C k115 w a0 len0 l0) (w1 : (a1 = none ∧ len1 = 0 ∧ cap1 = 0 ∧ z1 = []) ∨ ∃ x, a1 = some x ∧ len1 ≤ cap1 ∧ cap1 ≤ maxLen ∧ z1.length = cap1 ∧ (∀ i, i < z1.length → w.cell? (x.add i) = some (.int .i64 (z1.getD i 0))) ∧ ∀ n ∈ z1, (Lit.int .i64 n).wf = true) :
    Calls Try.prog 11 #[.slice a0 len0 cap0, .slice a1 len1 cap1] w fun e w' => e = .returned (.bool true) ∧ Below w.heap.size w w' := by
  subst e0
  obtain ⟨l1, rfl, hr1, hm1, hw1, hc1⟩ := ReadsInt.ofRowC w1
  obtain ⟨k, h⟩ := P l0 l1 hm0
  refine (laws_FnExactChain.calls k _ _ l0 _ _ l1 true w w0 hl0 (Kd.C_of_reads (d := (0 : Int)) (h1 := fun _ => rfl) hr1) hc1 h).mono ?_
  rintro e w' ⟨rfl, hd⟩
  exact ⟨rfl, hd⟩
end Go.Proofs.Ytnpoimjdkjhcpaa.PFnExactChain
