/- The statement FnExactDecide out of its walk and its plain law. -/
import Derived.Test.YtnpoimjdkjhcpaaRows
import Derived.Test.YtnpoimjdkjhcpaaQFnExactDecidex6
import Derived.Test.YtnpoimjdkjhcpaaPureFnExactDecide
import Derived.WalkKit
import Derived.ProofKit
import Derived.OpenShut
import Derived.ShutString
import Derived.ChangeOld
import Derived.Below
import Derived.SizedLaws
import Derived.Deep.Slices
import Derived.Test.YtnpoimjdkjhcpaaWSized
namespace Go.Proofs.Ytnpoimjdkjhcpaa.fnExactDecide
open Go.ChangeShapes Go.WideShapes Go.ChangeAt Go.RowKit
open Go.ChangeMaps (open_string shut_string)
set_option linter.unusedVariables false
theorem own : ownKnob Try.prog.godebug = none := by kernel_rfl
theorem laidOut : laidOutB Try.prog = true := by kernel_rfl
set_option maxRecDepth 100000 in
/-- One point, from its two cells. -/
theorem one_pt {H : Type} {enc : TypeId × Value → H} {w : World} {fuel : Nat} {a : Addr} {i : Nat} {cs : List Value} {x : DataW H × List MemPlace} (h1 : w.cells? 0 (a.add (i * 2)) 2 = some cs) (h2 : DataW.trod enc Try.prog w 0 (fun _ => true) true fuel 96 cs = some x) :
    ∃ s : PFnExactDecide.S96, ∀ j u, [Value.int .i64 s.f0, .int .i64 s.f1][j]? = some u → w.cell? (a.add (i * 2 + j)) = some u := by
  obtain ⟨_, hlen, hcell⟩ := World.cells?_some h1
  obtain ⟨xs, k, hk, hxy, _, hxl, hf⟩ := DataW.trod_struct Try.underlying96 h2
  match xs, hxl, cs, hlen with
  | [y0, y1], _, [v0, v1], _ =>
    have g0 := hf 0 _ rfl
    have g1 := hf 1 _ rfl
    have c3 : Try.prog.cellsOf 3 = 1 := by kernel_rfl
    simp [c3] at g0 g1
    obtain ⟨n0, e0, _, _⟩ := DataW.trod_int Try.underlying3 g0
    obtain ⟨n1, e1, _, _⟩ := DataW.trod_int Try.underlying3 g1
    simp only [List.cons.injEq, and_true] at e0 e1
    subst e0 e1
    refine ⟨⟨n0, n1⟩, fun j u hu => ?_⟩
    have hj : j < 2 := by have := (List.getElem?_eq_some_iff.1 hu).1; simpa using this
    have h3 := hcell j (by omega)
    rw [Go.Deep.add_add] at h3
    rw [h3]
    exact hu
set_option maxRecDepth 100000 in
/-- The points of a list. -/
theorem pts {H : Type} {enc : TypeId × Value → H} {w : World} {fuel : Nat} {A : Option Addr} {len cap : Nat} {x : DataW H × List MemPlace} (h : DataW.trod enc Try.prog w 0 (fun _ => true) true fuel 48 [.slice A len cap] = some x) :
    ∃ l : List PFnExactDecide.S96, l.length = len ∧ len ≤ cap ∧ len ≤ maxLen ∧ Go.Proofs.YtnpoimjdkjhcpaaW.PrintWords.Kd.C PFnExactDecide.k96 w A len l := by
  rcases Go.Deep.open_slice Try.underlying48 h with ⟨hcs, _⟩ | ⟨a, ln, cp, m, n, D, Pl, hcs, _, hl, hm, hmm, _, hx⟩
  · simp only [List.cons.injEq, Value.slice.injEq, and_true] at hcs
    obtain ⟨rfl, rfl, rfl⟩ := hcs
    exact ⟨[], rfl, Nat.le_refl _, Nat.zero_le _, rfl, Nat.zero_le _, fun h => absurd h (Nat.lt_irrefl 0)⟩
  · simp only [List.cons.injEq, Value.slice.injEq, and_true] at hcs
    obtain ⟨rfl, rfl, rfl⟩ := hcs
    have c5 : Try.prog.cellsOf 96 = 2 := by kernel_rfl
    rw [c5] at hx
    have hlm : len ≤ m := by rw [hmm]; split <;> omega
    haveI : Inhabited PFnExactDecide.S96 := ⟨PFnExactDecide.z96⟩
    obtain ⟨q, hq⟩ := Go.Deep.choose_lt (α := PFnExactDecide.S96) (n := len) (p := fun i s => ∀ j u, [Value.int .i64 s.f0, .int .i64 s.f1][j]? = some u → w.cell? (a.add (i * 2 + j)) = some u) (fun i hi => by
      obtain ⟨cs', h1, h2⟩ := hx i (by omega)
      exact one_pt h1 h2)
    refine ⟨(List.range len).map q, by simp, hl, by omega, by simp, by unfold maxLen at hm; omega, fun _ => ⟨a, rfl, fun j p hj => ?_⟩⟩
    have hjl : j < len := by have := (List.getElem?_eq_some_iff.1 hj).1; simpa using this
    have e : q j = p := by
      have h3 := hj
      rw [List.getElem?_map, List.getElem?_range hjl] at h3
      simpa using h3
    subst e
    exact ⟨_, rfl, PFnExactDecide.k96_mk w (q j), hq j hjl⟩
set_option maxRecDepth 100000 in
theorem lifted (os : Os) (started : os.Started) (H : Type) (enc : TypeId × Value → H) :
    ReturnsInHanded {} Try.checked os 7 .any (Rows.fnExactDecideSpec.pre6 enc Try.prog Try.f7 Rows.fnExactDecideRow.domain false) (Rows.fnExactDecideSpec.post enc Try.prog Try.f7 false true false false) := by
  refine returnsInHanded_of_change_sized (C := Try.checked) own started (by kernel_rfl) Try.func7
    (ChangeSpec.witness6 (enc := enc) (C := Try.checked) false ⟨#[], #[.int .i64 0, .slice none 0 0], []⟩ 8 (by kernel_rfl) (by kernel_rfl) (by kernel_rfl) (by kernel_rfl)) ?_
  intro W base args ds gs before hval0 hW hcnd hsz0 _
  have hsz : (DataW.weightsEach Try.prog (Try.f7.params.toList ++ Rows.fnExactDecideSpec.plain.varTypes Try.prog) (ds ++ gs)).all (· ≤ reachBytes) = true := hsz0
  have hval : ∀ (j : Nat) t v, Try.f7.params[j]? = some t → args[j]? = some v → Value.okWide Try.prog W .any base t v := hval0
  have hW' := hW
  obtain ⟨p, q, hA0, hV, rfl, hfz, hnd⟩ := hW
  have hA : DataW.TrodAll enc Try.prog W 0 (fun _ => true) true Try.f7.params.toList args.toList ds p := hA0
  rw [Try.params7] at hA hval hsz
  obtain ⟨v0, vs0, d0, ds0, p0, q0, hargs, rfl, rfl, h0, r0⟩ := trodAll_cons hA
  obtain ⟨v1, vs1, d1, ds1, p1, q1, rfl, rfl, rfl, h1, r1⟩ := trodAll_cons r0
  obtain ⟨rfl, rfl, rfl⟩ := trodAll_nil r1
  obtain rfl : args = #[v0, v1] := by cases args; simp_all
  obtain ⟨rfl, rfl⟩ := trodVars_none hV
  obtain ⟨a0, rfl, rfl, rfl, w0⟩ := open_int Try.underlying3 (hval 0 3 v0 rfl rfl) h0
  obtain ⟨a1, len1, cap1, rfl⟩ := okWide_slice Try.underlying48 (hval 1 48 v1 rfl rfl)
  have k1 := h1
  have lt1 : ∀ x ∈ p1, x.block < W.heap.size := by obtain ⟨m, hm⟩ := k1; exact DataW.trod_lt m _ _ _ hm
  obtain ⟨l1, e1, hl1, hm1, w1⟩ : ∃ l : List PFnExactDecide.S96, l.length = len1 ∧ len1 ≤ cap1 ∧ len1 ≤ maxLen ∧ Go.Proofs.YtnpoimjdkjhcpaaW.PrintWords.Kd.C PFnExactDecide.k96 W a1 len1 l := by
    obtain ⟨fuel, hf⟩ := h1
    exact pts hf
  clear hA0 hval0 hsz0 hsz
  refine (PFnExactDecide.laws_FnExactDecide.walk Pure.FnExactDecide a0 a1 len1 cap1 l1 W w0 e1 hl1 hm1 w1).mono fun e W' ⟨he, bel⟩ => ?_
  subst he
  exact ⟨_, rfl, _, _, _, [], _, [], hW', trodAll_mk1 (shut_bool Try.underlying4 _), (trodAll_cons_mk (shut_int Try.underlying3 w0) (trodAll_cons_mk (Below.trod laidOut (by kernel_rfl) (of_decide_eq_true (by kernel_rfl)) k1 bel lt1) trodAll_mk0)), rfl, bel.frame _, fun h => by cases h⟩
theorem over : Rows.fnExactDecideRow.holds Try.pinned (OpenSpec.ofChange Rows.fnExactDecideSpec) :=
  OpenClaim.holds_of_wide 7 Try.f7 rfl rfl rfl rfl rfl rfl rfl ⟨rfl, rfl, rfl, rfl, rfl⟩ rfl rfl rfl rfl rfl (by kernel_rfl) Try.func7 (by kernel_rfl)
    (of_decide_eq_true (by kernel_rfl)) (by unfold Func.isWrapper; first | (rw [if_pos (by decide +kernel)]; kernel_rfl) | (rw [if_neg (by decide +kernel)]; exact ⟨rfl, rfl⟩))
    (fun os started H enc _ => lifted os started H enc)
theorem proved : Rows.FnExactDecideSaid := over
#print axioms proved
end Go.Proofs.Ytnpoimjdkjhcpaa.fnExactDecide
namespace Go.Proofs.Ytnpoimjdkjhcpaa
/-- The row, under a short name, for the claim. -/
theorem fnExactDecide_holds : Rows.FnExactDecideSaid := fnExactDecide.proved
end Go.Proofs.Ytnpoimjdkjhcpaa
