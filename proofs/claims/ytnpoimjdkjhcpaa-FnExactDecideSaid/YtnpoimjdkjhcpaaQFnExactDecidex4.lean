/- The functions that FnExactDecide reaches, each with its walk; written by a program (own.py). -/
import Derived.Test.YtnpoimjdkjhcpaaQFnExactDecidex0
import Derived.Test.YtnpoimjdkjhcpaaQFnExactDecidex3
namespace Go.Proofs.Ytnpoimjdkjhcpaa.PFnExactDecide
open Go.RowKit Go.Proofs.YtnpoimjdkjhcpaaW.PrintWords Go.Proofs.YtnpoimjdkjhcpaaW.PrintLast Go.Proofs.YtnpoimjdkjhcpaaW.PrintMore
attribute [local go_sem] max2_int min2_int max_two min_two max_three min_three max_four min_four   -- for this text's walks alone
set_option linter.unusedVariables false
set_option linter.unusedSimpArgs false

/-! ### impl_nearer: function 95 -/
def impl_nearer.f (a0 : Int) (a1 : Int) (a2 : Int) : Option (Int) := some (mn (mx a0 a1) a2)
set_option maxHeartbeats 8000000 in
set_option maxRecDepth 100000 in
theorem impl_nearer.calls (a0 : Int) (a1 : Int) (a2 : Int) (r : Int) (w : World) (h : impl_nearer.f a0 a1 a2 = some r) :
    Calls Try.prog 95 #[.int .i64 a0, .int .i64 a1, .int .i64 a2] w fun e w' => e = .returned (.int .i64 r) ∧ Below w.heap.size w w' := by
  have HB := Aside0.mk (Below.refl w.heap.size w)
  have H : (some (mn (mx a0 a1) a2)) = some r := h
  clear h
  obtain ⟨ji4, hji4⟩ : ∃ j_ : Int, (mx a0 a1) = j_ := ⟨_, rfl⟩
  replace H : (some (mn (ji4) a2)) = some r := by first | (rw [hji4] at H; exact H) | (simp only [hji4] at H ⊢; exact H)
  have hji4_ : (if a0 < a1 then a1 else a0) = ji4 := hji4
  obtain ⟨ji5, hji5⟩ : ∃ j_ : Int, (mn (ji4) a2) = j_ := ⟨_, rfl⟩
  replace H : (some ji5) = some r := by first | (rw [hji5] at H; exact H) | (simp only [hji5] at H ⊢; exact H)
  have hji5_ : (if a2 < (ji4) then a2 else (ji4)) = ji5 := hji5
  obtain rfl := Option.some.inj H
  go_enter Try.func95, Try.ntmps95
  go_wp2
  go_ret
  exact ⟨by first | rfl | (simp [errW_none, errW_some] <;> rfl) | (simp only [← hji4, ← hji5]; first | rfl | (simp [errW_none, errW_some] <;> rfl)) | (simp [*, errW_none, errW_some] <;> rfl), by repeat (first | (with_reducible first | exact HB.out | apply below_alloc | apply pw_below_drewN | apply below_drew1) | exact HB.out)⟩

/-! ### impl_big18: function 127 -/
def impl_big18.f (a0 : Int) : Option (Bool) := if a0 ≥ (-4000000000000000000) then (some (decide (a0 ≤ 4000000000000000000))) else (some false)
set_option maxHeartbeats 8000000 in
set_option maxRecDepth 100000 in
theorem impl_big18.calls (a0 : Int) (r : Bool) (w : World) (h : impl_big18.f a0 = some r) :
    Calls Try.prog 127 #[.int .i64 a0] w fun e w' => e = .returned (.bool r) ∧ Drawn0 w w' := by
  have H : (if a0 ≥ (-4000000000000000000) then (some (decide (a0 ≤ 4000000000000000000))) else (some false)) = some r := h
  clear h
  by_cases c2 : a0 ≥ (-4000000000000000000)
  · rw [if_pos c2] at H
    have c2b0 : decide ((-4000000000000000000) ≤ a0) = true := decide_eq_true c2
    clear c2
    obtain rfl := Option.some.inj H
    go_enter Try.func127, Try.ntmps127
    go_wp2
    go_ret
    exact ⟨by first | rfl | (simp; done) | (simp [*]; done), by repeat (first | exact Drawn0.refl _ | apply Drawn0.step)⟩
  · rw [if_neg c2] at H
    have c2b0 : decide ((-4000000000000000000) ≤ a0) = false := decide_eq_false c2
    clear c2
    obtain rfl := Option.some.inj H
    go_enter Try.func127, Try.ntmps127
    go_wp2
    go_ret
    exact ⟨by first | rfl | (simp; done) | (simp [*]; done), by repeat (first | exact Drawn0.refl _ | apply Drawn0.step)⟩

/-! ### impl_down: function 128 -/
def impl_down.f (a0 : Int) (a1 : Int) : Option (Int × Int) := if a1 = 0 then (none) else (if (Int.tmod a0 a1) < 0 then (some (wrap64 ((wrap64 (Int.tdiv a0 a1)) - 1), wrap64 ((Int.tmod a0 a1) + a1))) else (some (wrap64 (Int.tdiv a0 a1), Int.tmod a0 a1)))
set_option maxHeartbeats 8000000 in
set_option maxRecDepth 100000 in
theorem impl_down.calls (a0 : Int) (a1 : Int) (r1 : Int) (r2 : Int) (w : World) (h : impl_down.f a0 a1 = some (r1, r2)) :
    Calls Try.prog 128 #[.int .i64 a0, .int .i64 a1] w fun e w' => e = .returned (.tuple #[.int .i64 r1, .int .i64 r2]) ∧ Drawn0 w w' := by
  have H : (if a1 = 0 then (none) else (if (Int.tmod a0 a1) < 0 then (some (wrap64 ((wrap64 (Int.tdiv a0 a1)) - 1), wrap64 ((Int.tmod a0 a1) + a1))) else (some (wrap64 (Int.tdiv a0 a1), Int.tmod a0 a1)))) = some (r1, r2) := h
  clear h
  by_cases c3 : a1 = 0
  · rw [if_pos c3] at H
    exact absurd H (by simp)
  · rw [if_neg c3] at H
    have c3b0 : (a1 == 0) = false := beq_eq_false_iff_ne.mpr c3
    have c3b1 : (a1 != 0) = true := bne_iff_ne.mpr c3
    by_cases c4 : (Int.tmod a0 a1) < 0
    · rw [if_pos c4] at H
      have c4b0 : decide ((Int.tmod a0 a1) < 0) = true := decide_eq_true c4
      clear c4
      simp only [Option.some.injEq, Prod.mk.injEq] at H
      obtain ⟨rfl, rfl⟩ := H
      go_enter Try.func128, Try.ntmps128
      go_wp2
      repeat (go_quiet (fail); try go_wp2)
      go_ret2
      exact ⟨by first | rfl | (simp; done) | (simp [*]; done), by repeat (first | exact Drawn0.refl _ | apply Drawn0.step)⟩
    · rw [if_neg c4] at H
      have c4b0 : decide ((Int.tmod a0 a1) < 0) = false := decide_eq_false c4
      clear c4
      simp only [Option.some.injEq, Prod.mk.injEq] at H
      obtain ⟨rfl, rfl⟩ := H
      go_enter Try.func128, Try.ntmps128
      go_wp2
      repeat (go_quiet (fail); try go_wp2)
      go_ret2
      exact ⟨by first | rfl | (simp; done) | (simp [*]; done), by repeat (first | exact Drawn0.refl _ | apply Drawn0.step)⟩

/-! ### impl_RoundDiv: function 96 -/
def impl_RoundDiv.j0 : Nat → Int → Int → Bool → Option (Int)
  | 0, _, _, _ => none
  | k + 1, x0, x1, x17 => if x17 = true then (some 0) else ((impl_down.f x0 x1).bind fun bt161 => (if bt161.2 ≥ (wrap64 (x1 - bt161.2)) then (some (wrap64 (bt161.1 + 1))) else (some bt161.1)))
def impl_RoundDiv.f (k : Nat) (a0 : Int) (a1 : Int) : Option (Int) := if a1 < 1 then (impl_RoundDiv.j0 k a0 a1 true) else (if a1 > 4000000000000000000 then (impl_RoundDiv.j0 k a0 a1 true) else ((impl_big18.f a0).bind fun t160 => (impl_RoundDiv.j0 k a0 a1 (!t160))))
theorem impl_RoundDiv.mono_l : ∀ k, (∀ y0 y1 y2, LeO (impl_RoundDiv.j0 k y0 y1 y2) (impl_RoundDiv.j0 (k + 1) y0 y1 y2))
  | 0 => fun _ _ _ r h => by simp [impl_RoundDiv.j0] at h
  | k + 1 => by
    have ih0 := impl_RoundDiv.mono_l k
    · intro y0 y1 y2
      unfold impl_RoundDiv.j0
      repeat' first
      | (with_reducible exact ih0 _ _ _)
      | (with_reducible exact LeO.refl _)
      | (with_reducible exact LeO.none _)
      | (with_reducible refine LeO.ite ?_ ?_)
      | (with_reducible refine LeO.bind ?_ (fun _ => ?_))
      | exact ih0 _ _ _
      | exact LeO.none _
      | refine LeO.ite ?_ ?_
      | refine LeO.bind ?_ (fun _ => ?_)
theorem impl_RoundDiv.mono : ∀ a0 a1 k, LeO (impl_RoundDiv.f k a0 a1) (impl_RoundDiv.f (k + 1) a0 a1) := by
  intro a0 a1 k
  have ih0 := impl_RoundDiv.mono_l k
  unfold impl_RoundDiv.f
  repeat' first
      | (with_reducible exact ih0 _ _ _)
      | (with_reducible exact LeO.refl _)
      | (with_reducible exact LeO.none _)
      | (with_reducible refine LeO.ite ?_ ?_)
      | (with_reducible refine LeO.bind ?_ (fun _ => ?_))
      | exact ih0 _ _ _
      | exact LeO.none _
      | refine LeO.ite ?_ ?_
      | refine LeO.bind ?_ (fun _ => ?_)
set_option maxHeartbeats 8000000 in
set_option maxRecDepth 100000 in
theorem impl_RoundDiv.calls (k : Nat) (a0 : Int) (a1 : Int) (r : Int) (w : World) (h : impl_RoundDiv.f k a0 a1 = some r) :
    Calls Try.prog 96 #[.int .i64 a0, .int .i64 a1] w fun e w' => e = .returned (.int .i64 r) ∧ Drawn0 w w' := by
  have H : (if a1 < 1 then (impl_RoundDiv.j0 k a0 a1 true) else (if a1 > 4000000000000000000 then (impl_RoundDiv.j0 k a0 a1 true) else ((impl_big18.f a0).bind fun t160 => (impl_RoundDiv.j0 k a0 a1 (!t160))))) = some r := h
  clear h
  have HC3 := Aside0.mk H
  clear H
  go_enter Try.func96, Try.ntmps96
  go_upto_region 1 with (fail)
  go_cut [17] (fun v17 wc => ∃ (kq : Nat) (x17_2 : Bool), v17 = .bool x17_2 ∧ Aside0 (impl_RoundDiv.j0 kq a0 a1 x17_2 = some r) ∧ Aside0 (kq ≤ k) ∧ Drawn0 w wc)
  case first =>
    have H := HC3.out
    clear HC3
    by_cases c4 : a1 < 1
    · rw [if_pos c4] at H
      have c4b0 : decide (a1 < 1) = true := decide_eq_true c4
      clear c4
      (first | rw [c4b0] | (simp only [i64_w, i32_w]; rw [c4b0]) | skip)
      have H' := Aside0.mk H
      clear H
      go_wp2
      go_meet
      case rel => exact ⟨_, (true), (by first | rfl | (simp; done) | (simp [*]; done)), H', ⟨by first | omega | exact Nat.le_refl _⟩, by repeat (first | exact Drawn0.refl _ | apply Drawn0.step)⟩
    · rw [if_neg c4] at H
      have c4b0 : decide (a1 < 1) = false := decide_eq_false c4
      clear c4
      (first | rw [c4b0] | (simp only [i64_w, i32_w]; rw [c4b0]) | skip)
      by_cases c5 : a1 > 4000000000000000000
      · rw [if_pos c5] at H
        have c5b0 : decide (4000000000000000000 < a1) = true := decide_eq_true c5
        clear c5
        have H' := Aside0.mk H
        clear H
        go_wp2
        go_meet
        case rel => exact ⟨_, (true), (by first | rfl | (simp; done) | (simp [*]; done)), H', ⟨by first | omega | exact Nat.le_refl _⟩, by repeat (first | exact Drawn0.refl _ | apply Drawn0.step)⟩
      · rw [if_neg c5] at H
        have c5b0 : decide (4000000000000000000 < a1) = false := decide_eq_false c5
        clear c5
        replace H := Option.bind_eq_some_iff.mp H
        obtain ⟨t160, A60, H⟩ := H
        replace H : (impl_RoundDiv.j0 k a0 a1 (!t160)) = some r := H
        have A6 := Aside0.mk A60
        clear A60
        have H' := Aside0.mk H
        clear H
        go_wp2_with (first | (go_at_call 127; (with_reducible refine (impl_big18.calls a0 t160 _ A6.out).mono ?_); rintro e w' ⟨rfl, ⟨nd, rfl⟩⟩))
        go_meet
        case rel => exact ⟨_, (!t160), (by first | rfl | (simp; done) | (simp [*]; done)), H', ⟨by first | omega | exact Nat.le_refl _⟩, by repeat (first | exact Drawn0.refl _ | apply Drawn0.step)⟩
  case rest =>
    clear HC3
    try clear p2
    try clear c4
    try clear c4b0
    try clear c5
    try clear c5b0
    obtain ⟨kq, x17_2, rfl, HA, HJ2, ⟨mc2, rfl⟩⟩ := hcut
    cases kq with
    | zero => exact absurd HA.out (by simp [impl_RoundDiv.j0])
    | succ kj2 =>
      have H := HA.out
      clear HA
      simp only [impl_RoundDiv.j0] at H
      by_cases c7 : x17_2 = true
      · subst c7
        have H1 : (some 0) = some r := by rw [if_pos rfl] at H; exact H
        clear H
        have H := H1
        clear H1
        obtain rfl := Option.some.inj H
        go_wp2
        go_ret
        exact ⟨by first | rfl | (simp; done) | (simp [*]; done), by repeat (first | exact Drawn0.refl _ | apply Drawn0.step)⟩
      · replace c7 := Bool.eq_false_iff.mpr c7
        subst c7
        have H1 : ((impl_down.f a0 a1).bind fun bt161 => (if bt161.2 ≥ (wrap64 (a1 - bt161.2)) then (some (wrap64 (bt161.1 + 1))) else (some bt161.1))) = some r := by rw [if_neg (show ¬ (false = true) by decide)] at H; exact H
        clear H
        have H := H1
        clear H1
        replace H := Option.bind_eq_some_iff.mp H
        obtain ⟨⟨t161, t162⟩, A80, H⟩ := H
        replace H : (if t162 ≥ (wrap64 (a1 - t162)) then (some (wrap64 (t161 + 1))) else (some t161)) = some r := H
        have A8 := Aside0.mk A80
        clear A80
        by_cases c9 : t162 ≥ (wrap64 (a1 - t162))
        · rw [if_pos c9] at H
          have c9b0 : decide ((wrap64 (a1 - t162)) ≤ t162) = true := decide_eq_true c9
          clear c9
          obtain rfl := Option.some.inj H
          go_wp2_with (first | ((with_reducible refine gate_callee (f := 128) rfl ?_); refine goesL_ (some 21) rfl rfl Try.func128 (by kernel_rfl) rfl #[.int .i64 a0, .int .i64 a1] rfl (by (try simp only [List.map_toArray, List.map_cons, List.map_nil]); first | done | rfl | (simp only [List.length_drop, List.length_take]; rfl)) ?_; (with_reducible refine (impl_down.calls a0 a1 t161 t162 _ A8.out).mono ?_); rintro e w' ⟨rfl, ⟨nd, rfl⟩⟩; refine ⟨_, rfl, ?_⟩))
          go_ret
          exact ⟨by first | rfl | (simp; done) | (simp [*]; done), by repeat (first | exact Drawn0.refl _ | apply Drawn0.step)⟩
        · rw [if_neg c9] at H
          have c9b0 : decide ((wrap64 (a1 - t162)) ≤ t162) = false := decide_eq_false c9
          clear c9
          obtain rfl := Option.some.inj H
          go_wp2_with (first | ((with_reducible refine gate_callee (f := 128) rfl ?_); refine goesL_ (some 21) rfl rfl Try.func128 (by kernel_rfl) rfl #[.int .i64 a0, .int .i64 a1] rfl (by (try simp only [List.map_toArray, List.map_cons, List.map_nil]); first | done | rfl | (simp only [List.length_drop, List.length_take]; rfl)) ?_; (with_reducible refine (impl_down.calls a0 a1 t161 t162 _ A8.out).mono ?_); rintro e w' ⟨rfl, ⟨nd, rfl⟩⟩; refine ⟨_, rfl, ?_⟩))
          go_ret
          exact ⟨by first | rfl | (simp; done) | (simp [*]; done), by repeat (first | exact Drawn0.refl _ | apply Drawn0.step)⟩

/-! ### impl_sample: function 97 -/
def impl_sample.f (a0 : Int) : Option (Bool) := if a0 ≥ (-1000000000) then (some (decide (a0 ≤ 1000000000))) else (some false)
set_option maxHeartbeats 8000000 in
set_option maxRecDepth 100000 in
theorem impl_sample.calls (a0 : Int) (r : Bool) (w : World) (h : impl_sample.f a0 = some r) :
    Calls Try.prog 97 #[.int .i64 a0] w fun e w' => e = .returned (.bool r) ∧ Drawn0 w w' := by
  have H : (if a0 ≥ (-1000000000) then (some (decide (a0 ≤ 1000000000))) else (some false)) = some r := h
  clear h
  by_cases c2 : a0 ≥ (-1000000000)
  · rw [if_pos c2] at H
    have c2b0 : decide ((-1000000000) ≤ a0) = true := decide_eq_true c2
    clear c2
    obtain rfl := Option.some.inj H
    go_enter Try.func97, Try.ntmps97
    go_wp2
    go_ret
    exact ⟨by first | rfl | (simp; done) | (simp [*]; done), by repeat (first | exact Drawn0.refl _ | apply Drawn0.step)⟩
  · rw [if_neg c2] at H
    have c2b0 : decide ((-1000000000) ≤ a0) = false := decide_eq_false c2
    clear c2
    obtain rfl := Option.some.inj H
    go_enter Try.func97, Try.ntmps97
    go_wp2
    go_ret
    exact ⟨by first | rfl | (simp; done) | (simp [*]; done), by repeat (first | exact Drawn0.refl _ | apply Drawn0.step)⟩

/-! ### impl_Decide: function 40 -/
/-- A call of a function value, by its contract. -/
theorem goesD_ {P : Program} {ops : Array Oper} {Q : Exit → Act → World → Prop} {oi : Oper} {N : Option Tmp} {a : Act} {w : World} {K : Act → World → Prop} {f : FuncId} {fn : Func} {t : Tmp} {xs : Array Operand} {ts : Array TypeId} {cap : Array Value} (hf : P.funcs[f]? = some fn) (hname : (fn.name == "runtime.NumGoroutine") = false) (hb : fn.body.isSome = true) (args : Array Value)
    (hw : Region.wanted oi (yielded ops a.tmps) = true) (hN : oi.dst = N) (hop : oi.op = .call { callee := .value (.tmp t), args := xs, argTypes := ts }) (hev : a.eval (.tmp t) = .func (.func f) #[] cap) (hargs : xs.map a.eval ++ cap = args)
    (h : Calls P f args w fun e w' => ∃ v, e = .returned v ∧ K (a.put N v) w') : if Region.wanted oi (yielded ops a.tmps) = true then Oper.wp P oi a w K Q else K (a.put N undef) w := by
  refine call_ f args hw hN ?_ h
  have he := enters_ hf hname hb args w
  unfold execOp
  simp [hop, resolve, Deferred.ofValue, invoke, hev, hargs, he]
/-- The function inside 'Decide': the rounds over the bits of one number, the highest first. -/
def impl_Decide.v0 : Nat → List Int → Int → Int → Option (List Int)
  | 0, _, _, _ => none
  | k + 1, l, g, x => if 0 ≤ x then (if l.length < 17592186044416 then (impl_Decide.v0 k (l ++ [Go.bits .and .i64 (shr .i64 g x) 1]) g (wrap64 (x - 1))) else (none)) else (some l)
def impl_Decide.put (k : Nat) (l : List Int) (x1 a0 : Int) : Option (List Int) := if 0 ≤ x1 then ((impl_RoundDiv.f k (wrap64 ((wrap64 (a0 + (shl .i64 1 x1))) - 1)) 2).bind fun t1 => ((impl_nearer.f t1 0 (wrap64 ((shl .i64 1 x1) - 1))).bind fun t2 => ((impl_Gray.f t2).bind fun t3 => (impl_Decide.v0 k l t3 (wrap64 (x1 - 1)))))) else (none)
theorem impl_Decide.mono_v : ∀ k, (∀ y0 y1 y2, LeO (impl_Decide.v0 k y0 y1 y2) (impl_Decide.v0 (k + 1) y0 y1 y2))
  | 0 => fun _ _ _ r h => by simp [impl_Decide.v0] at h
  | k + 1 => by
    have ih0 := impl_Decide.mono_v k
    intro y0 y1 y2
    unfold impl_Decide.v0
    repeat' first
      | (with_reducible exact ih0 _ _ _)
      | (with_reducible exact LeO.refl _)
      | (with_reducible exact LeO.none _)
      | (with_reducible refine LeO.ite ?_ ?_)
      | (with_reducible refine LeO.bind ?_ (fun _ => ?_))
      | exact ih0 _ _ _
      | exact LeO.none _
      | refine LeO.ite ?_ ?_
      | refine LeO.bind ?_ (fun _ => ?_)
theorem impl_Decide.mono_p : ∀ k y0 y1 y2, LeO (impl_Decide.put k y0 y1 y2) (impl_Decide.put (k + 1) y0 y1 y2) := by
  intro k y0 y1 y2
  have ih0 := impl_Decide.mono_v k
  unfold impl_Decide.put
  repeat' first
      | (with_reducible exact ih0 _ _ _)
      | (with_reducible exact impl_RoundDiv.mono _ _ _)
      | (with_reducible exact LeO.refl _)
      | (with_reducible exact LeO.none _)
      | (with_reducible refine LeO.ite ?_ ?_)
      | (with_reducible refine LeO.bind ?_ (fun _ => ?_))
      | exact ih0 _ _ _
      | exact impl_RoundDiv.mono _ _ _
      | exact LeO.none _
      | refine LeO.ite ?_ ?_
      | refine LeO.bind ?_ (fun _ => ?_)
def impl_Decide.T0 : Bool × List (List Nat × List Nat) := (true, [([], []), ([], []), ([1], [1]), ([0, 2], [0, 2]), ([3], [3]), ([4], [4]), ([], []), ([6], [6]), ([7], [7]), ([5, 8, 5], [5, 8]), ([9, 9], [9]), ([10, 10, 0, 1, 2, 3, 4, 5, 6, 7, 8, 9, 10], [10])])
def impl_Decide.B0 : List Nat := [0, 0, 2, 7, 15, 31, 0, 64, 192, 511, 1023, 2047]
theorem impl_Decide.tab0 : rtab .any (opsOf Try.f93 0) = impl_Decide.T0 := by kernel_rfl
theorem impl_Decide.bits0 : waitsOk impl_Decide.T0.2 impl_Decide.B0 = true := by kernel_rfl
def impl_Decide.T4 : Bool × List (List Nat × List Nat) := (true, [([], []), ([], []), ([], []), ([1, 2], [1, 2]), ([3], [3]), ([4], [4]), ([0, 5], [0, 5]), ([6, 6, 0, 1, 2, 3, 4, 5, 6], [6])])
def impl_Decide.B4 : List Nat := [0, 0, 0, 6, 14, 30, 63, 127]
theorem impl_Decide.tab4 : rtab .any (opsOf Try.f93 4) = impl_Decide.T4 := by kernel_rfl
theorem impl_Decide.bits4 : waitsOk impl_Decide.T4.2 impl_Decide.B4 = true := by kernel_rfl
theorem cell_of_block {w w1 : World} {g : Nat} (h : w1.heap[g]? = w.heap[g]?) : w1.cell? ⟨g, 0, none⟩ = w.cell? ⟨g, 0, none⟩ := by
  unfold World.cell?
  simp only [h]
set_option maxHeartbeats 8000000 in
set_option maxRecDepth 100000 in
theorem impl_Decide.put_calls (k : Nat) (x1 a0 : Int) (l r : List Int) (g6 g7 base : Nat) (ok : Nat → Prop) (v : Value) (w0 w : World) (hg6 : w.cell? ⟨g6, 0, none⟩ = some (.int .i64 x1)) (hg7 : w.heap[g7]? = some (.cells #[v] 27 (0, 0))) (h7 : ¬ ok g7) (hb7 : base ≤ g7) (hfr : ∀ b, w.heap.size ≤ b → ok b) (hB : Below base w0 w) (hbw : base ≤ w.heap.size) (hr : Kd.R (Kd.int .i64) 3 w base ok v l) (h : impl_Decide.put k l x1 a0 = some r) :
    Calls Try.prog 93 #[.int .i64 a0, .pointer (some ⟨g6, 0, none⟩), .pointer (some ⟨g7, 0, none⟩)] w fun e w' => (∃ v0_, e = .returned v0_) ∧ ∃ u, w'.heap[g7]? = some (.cells #[u] 27 (0, 0)) ∧ Kd.R (Kd.int .i64) 3 w' base ok u r ∧ Below base w0 w' ∧ w.heap.size ≤ w'.heap.size ∧ ∀ b, b < w.heap.size → ¬ ok b → b ≠ g7 → w'.heap[b]? = w.heap[b]? := by
  have HR0 := Aside0.mk hr
  have HB0 := Aside0.mk hB
  clear hr hB
  have H : (if 0 ≤ x1 then ((impl_RoundDiv.f k (wrap64 ((wrap64 (a0 + (shl .i64 1 x1))) - 1)) 2).bind fun t1 => ((impl_nearer.f t1 0 (wrap64 ((shl .i64 1 x1) - 1))).bind fun t2 => ((impl_Gray.f t2).bind fun t3 => (impl_Decide.v0 k l t3 (wrap64 (x1 - 1)))))) else (none)) = some r := h
  clear h
  by_cases c6 : 0 ≤ x1
  · rw [if_pos c6] at H
    have c6b0 := eq_true c6
    have c6b1 : decide (0 ≤ x1) = true := decide_eq_true c6
    clear c6
    obtain ⟨ji7, hji7⟩ : ∃ j_ : Int, (shl .i64 1 x1) = j_ := ⟨_, rfl⟩
    rw [hji7] at H
    have hji7_ : (IntKind.i64.wrap (1 * 2 ^ min x1.toNat 64)) = ji7 := hji7
    have hji7z : x1 ≤ 64 → (IntKind.i64.wrap (1 * 2 ^ x1.toNat)) = ji7 := shl_small hji7
    have hji7u : (IntKind.i64.wrap (2 ^ min x1.toNat 64)) = ji7 := by have h_ := hji7_; rw [Int.one_mul] at h_; exact h_
    have hji7v : x1 ≤ 64 → (IntKind.i64.wrap (2 ^ x1.toNat)) = ji7 := fun hle_ => by have h_ := hji7z hle_; rw [Int.one_mul] at h_; exact h_
    have hji7y : (wrap64 (1 * 2 ^ min x1.toNat 64)) = ji7 := (i64_w _).symm.trans hji7_
    have hji7x : x1 ≤ 64 → (wrap64 (1 * 2 ^ x1.toNat)) = ji7 := fun h_ => (i64_w _).symm.trans (hji7z h_)
    obtain ⟨t1, A10, H⟩ := Option.bind_eq_some_iff.mp H
    have A1 := Aside0.mk A10
    obtain ⟨t2, A20, H⟩ := Option.bind_eq_some_iff.mp H
    have A2 := Aside0.mk A20
    obtain ⟨t3, A30, H⟩ := Option.bind_eq_some_iff.mp H
    have A3 := Aside0.mk A30
    clear A10 A20 A30
    have H' := Aside0.mk H
    clear H
    go_enter Try.func93, Try.ntmps93
    try go_wp2
    have HD := Aside0.mk (show Below w.heap.size w (World.drew w) from below_drew1 (Below.refl _ _))
    have hS : (World.drew w).cell? ⟨g6, 0, none⟩ = some (.int .i64 x1) := hg6
    refine start_ (n := 12) (S := fun w' => w'.cell? ⟨g6, 0, none⟩ = some (.int .i64 x1)) (ds := []) #[false, false, false, false, false, false, false, false, false, false, false, false] (by kernel_rfl) rfl rfl (hS) (fun hHeld => ?_); refine with_tabW impl_Decide.tab0 impl_Decide.bits0 (fun HT_ HW_ => ?_)
    generalize World.drew w = wd at HD hS hHeld ⊢
    refine pure_ (i := 0) (N := some 6) (v := ?_) (a' := ?_) #[true, false, false, false, false, false, false, false, false, false, false, false] rfl rfl (any_of HT_.out (by kernel_rfl)) (fun _ _ _ h => h) (Or.inl ⟨by rfl, ?_⟩) ?_ ?_
    rotate_left
    · intro w'
      go_simp
      with_reducible rfl
    rotate_left
    · simp only [Act.put, List.setIfInBounds_toArray, List.set_cons_zero, List.set_cons_succ, i64_w, i32_w]
      rfl
    refine take_ (i := 1) (N := some 7) (v := ?_) (a' := ?_) #[true, true, false, false, false, false, false, false, false, false, false, false] rfl rfl (take_ofW HT_.out HW_.out (by kernel_rfl)) (fun _ _ _ h => h) (Or.inl ⟨by rfl, ?_⟩) hHeld ?_ ?_
    rotate_left
    · intro w' s0
      go_simp
      with_reducible rfl
    rotate_left
    · simp only [Act.put, List.setIfInBounds_toArray, List.set_cons_zero, List.set_cons_succ, i64_w, i32_w]
      rfl
    refine pure_ (i := 2) (N := some 8) (v := ?_) (a' := ?_) #[true, true, true, false, false, false, false, false, false, false, false, false] rfl rfl (any_of HT_.out (by kernel_rfl)) (fun _ _ _ h => h) (Or.inl ⟨by rfl, ?_⟩) ?_ ?_
    rotate_left
    · intro w'
      go_simp
      with_reducible rfl
    rotate_left
    · simp only [Act.put, List.setIfInBounds_toArray, List.set_cons_zero, List.set_cons_succ, i64_w, i32_w]
      rfl
    refine pure_ (i := 3) (N := some 9) (v := ?_) (a' := ?_) #[true, true, true, true, false, false, false, false, false, false, false, false] rfl rfl (any_of HT_.out (by kernel_rfl)) (fun _ _ _ h => h) (Or.inl ⟨by rfl, ?_⟩) ?_ ?_
    rotate_left
    · intro w'
      go_simp
      with_reducible rfl
    rotate_left
    · simp only [Act.put, List.setIfInBounds_toArray, List.set_cons_zero, List.set_cons_succ, i64_w, i32_w]
      rfl
    refine pure_ (i := 4) (N := some 10) (v := ?_) (a' := ?_) #[true, true, true, true, true, false, false, false, false, false, false, false] rfl rfl (any_of HT_.out (by kernel_rfl)) (fun _ _ _ h => h) (Or.inl ⟨by rfl, ?_⟩) ?_ ?_
    rotate_left
    · intro w'
      go_simp
      with_reducible rfl
    rotate_left
    · simp only [Act.put, List.setIfInBounds_toArray, List.set_cons_zero, List.set_cons_succ, i64_w, i32_w]
      rfl
    refine take_ (i := 6) (N := some 12) (v := ?_) (a' := ?_) #[true, true, true, true, true, false, true, false, false, false, false, false] rfl rfl (take_ofW HT_.out HW_.out (by kernel_rfl)) (fun _ _ _ h => h) (Or.inl ⟨by rfl, ?_⟩) hHeld ?_ ?_
    rotate_left
    · intro w' s0
      go_simp
      with_reducible rfl
    rotate_left
    · simp only [Act.put, List.setIfInBounds_toArray, List.set_cons_zero, List.set_cons_succ, i64_w, i32_w]
      rfl
    refine pure_ (i := 7) (N := some 13) (v := ?_) (a' := ?_) #[true, true, true, true, true, false, true, true, false, false, false, false] rfl rfl (any_of HT_.out (by kernel_rfl)) (fun _ _ _ h => h) (Or.inl ⟨by rfl, ?_⟩) ?_ ?_
    rotate_left
    · intro w'
      go_simp
      with_reducible rfl
    rotate_left
    · simp only [Act.put, List.setIfInBounds_toArray, List.set_cons_zero, List.set_cons_succ, i64_w, i32_w]
      rfl
    refine pure_ (i := 8) (N := some 14) (v := ?_) (a' := ?_) #[true, true, true, true, true, false, true, true, true, false, false, false] rfl rfl (any_of HT_.out (by kernel_rfl)) (fun _ _ _ h => h) (Or.inl ⟨by rfl, ?_⟩) ?_ ?_
    rotate_left
    · intro w'
      go_simp
      with_reducible rfl
    rotate_left
    · simp only [Act.put, List.setIfInBounds_toArray, List.set_cons_zero, List.set_cons_succ, i64_w, i32_w]
      rfl
    refine one_ (i := 5) (N := some 11) #[true, true, true, true, true, true, true, true, true, false, false, false] rfl rfl (one_of HT_.out (by kernel_rfl)) (by decide) (fun K hK => ?_)
    refine goes_ Try.func96 (by kernel_rfl) rfl #[.int .i64 (wrap64 ((wrap64 (a0 + ji7)) - 1)), .int .i64 2] (by rfl) rfl rfl (by (try simp only [List.map_toArray, List.map_cons, List.map_nil]); first | done | rfl | (simp; done) | (simp; rfl)) ?_
    with_reducible refine (impl_RoundDiv.calls k (wrap64 ((wrap64 (a0 + ji7)) - 1)) 2 t1 _ A1.out).mono ?_
    rintro e w' ⟨rfl, ⟨nd, rfl⟩⟩
    refine ⟨_, rfl, ?_⟩
    refine hK.out _ _ (hHeld) (fun hHeld => ?_)
    clear hK K
    refine norm_ (a' := ?_) ?_ ?_
    rotate_left
    · show Act.put _ (some 11) _ = _
      simp only [Act.put, List.setIfInBounds_toArray, List.set_cons_zero, List.set_cons_succ, i64_w, i32_w]
      rfl
    refine one_ (i := 9) (N := some 15) #[true, true, true, true, true, true, true, true, true, true, false, false] rfl rfl (one_of HT_.out (by kernel_rfl)) (by decide) (fun K hK => ?_)
    refine goes_ Try.func95 (by kernel_rfl) rfl #[.int .i64 t1, .int .i64 0, .int .i64 (wrap64 (ji7 - 1))] (by rfl) rfl rfl (by (try simp only [List.map_toArray, List.map_cons, List.map_nil]); first | done | rfl | (simp; done) | (simp; rfl)) ?_
    with_reducible refine (impl_nearer.calls t1 0 (wrap64 (ji7 - 1)) t2 _ A2.out).mono ?_
    rintro e w18 ⟨rfl, hb⟩
    refine ⟨_, rfl, ?_⟩
    have HD2 := Aside0.mk (below_step (pw_below_drewN HD.out _) hb)
    clear HD
    refine hK.out _ _ (pw_cell_below hb hHeld) (fun hHeld => ?_)
    clear hK K
    refine norm_ (a' := ?_) ?_ ?_
    rotate_left
    · show Act.put _ (some 15) _ = _
      simp only [Act.put, List.setIfInBounds_toArray, List.set_cons_zero, List.set_cons_succ, i64_w, i32_w]
      rfl
    refine one_ (i := 10) (N := some 16) #[true, true, true, true, true, true, true, true, true, true, true, false] rfl rfl (one_of HT_.out (by kernel_rfl)) (by decide) (fun K hK => ?_)
    refine goes_ Try.func94 (by kernel_rfl) rfl #[.int .i64 t2] (by rfl) rfl rfl (by (try simp only [List.map_toArray, List.map_cons, List.map_nil]); first | done | rfl | (simp; done) | (simp; rfl)) ?_
    with_reducible refine (impl_Gray.calls t2 t3 _ A3.out).mono ?_
    rintro e w' ⟨rfl, ⟨nd, rfl⟩⟩
    refine ⟨_, rfl, ?_⟩
    refine hK.out _ _ (hHeld) (fun hHeld => ?_)
    clear hK K
    refine norm_ (a' := ?_) ?_ ?_
    rotate_left
    · show Act.put _ (some 16) _ = _
      simp only [Act.put, List.setIfInBounds_toArray, List.set_cons_zero, List.set_cons_succ, i64_w, i32_w]
      rfl
    refine pure_ (i := 11) (N := some 4) (v := ?_) (a' := ?_) #[true, true, true, true, true, true, true, true, true, true, true, true] rfl rfl (any_of HT_.out (by kernel_rfl)) (fun _ _ _ h => h) (Or.inl ⟨by rfl, ?_⟩) ?_ ?_
    rotate_left
    · intro w'
      go_simp
      with_reducible rfl
    rotate_left
    · simp only [Act.put, List.setIfInBounds_toArray, List.set_cons_zero, List.set_cons_succ, i64_w, i32_w]
      rfl
    refine done_ (done_of HT_.out (by kernel_rfl)) ?_
    try go_wp2
    have hx7_ : w18.heap[g7]? = some (.cells #[v] 27 (0, 0)) := blk_below hg7 HD2.out
    go_loopg [5] k (fun kq v5 w' => ∃ (x5_1 : Int) (l_1 : List Int) (u_1 : Value), v5 = .int .i64 x5_1 ∧ Aside0 (impl_Decide.v0 kq l_1 t3 x5_1 = some r) ∧ Aside0 (kq ≤ k) ∧ Aside0 (w'.heap[g7]? = some (.cells #[u_1] 27 (0, 0))) ∧ Aside0 (Kd.R (Kd.int .i64) 3 w' base ok u_1 l_1) ∧ Aside0 (Below base w0 w') ∧ Aside0 (w.heap.size ≤ w'.heap.size) ∧ Aside0 (∀ b, b < w.heap.size → ¬ ok b → b ≠ g7 → w'.heap[b]? = w.heap[b]?))
    case atStart => exact ⟨(wrap64 (x1 - 1)), l, v, (by first | rfl | (simp; done) | (simp [*]; done)), H', ⟨Nat.le_refl _⟩, ⟨(by (with_reducible repeat (first | refine blk_drewN ?_ _ | refine blk_drew ?_ | refine blk_alloc ?_ _)); exact hx7_)⟩, ⟨by (with_reducible repeat (first | apply Kd.R_alloc | apply Kd.R_drewN | apply Kd.R_drew)); exact Kd.R_below HR0.out HD2.out⟩, ⟨by repeat (first | (with_reducible first | apply pw_below_drewN | apply below_drew1) | exact below_then HB0.out hbw HD2.out)⟩, ⟨HD2.out.size⟩, ⟨fun b h1_ _ _ => HD2.out.block b h1_⟩⟩
    case round =>
      clear H' hx7_
      obtain ⟨x5_1, l_1, u_1, rfl, HA, HK1, HG7, HO, HB, HZ, HF⟩ := hrel
      cases gk with
      | zero => exact absurd HA.out (by simp [impl_Decide.v0])
      | succ k1 =>
        have H := HA.out
        clear HA
        simp only [impl_Decide.v0] at H
        by_cases c2 : 0 ≤ x5_1
        · rw [if_pos c2] at H
          have c2b0 := eq_true c2
          have c2b1 : decide (0 ≤ x5_1) = true := decide_eq_true c2
          have c2b2 : decide (x5_1 ≥ 0) = true := decide_eq_true c2
          clear c2
          by_cases c27 : l_1.length < 17592186044416
          · rw [if_pos c27] at H
            have LMc27 := Aside0.mk c27
            clear c27
            obtain ⟨ji8, hji8⟩ : ∃ j_ : Int, (shr .i64 t3 x5_1) = j_ := ⟨_, rfl⟩
            rw [hji8] at H
            have hji8_ : (t3 / 2 ^ min x5_1.toNat 64) = ji8 := hji8
            have hji8z : x5_1 ≤ 64 → (t3 / 2 ^ x5_1.toNat) = ji8 := shr_small hji8
            have H' := Aside0.mk H
            clear H
            try go_wp2
            have n0_ := Aside0.mk (Kd.R_drew HO.out)
            have n1_ := Aside0.mk (below_drew1 HB.out)
            have n2_ : Aside0 (w.heap.size ≤ (World.drew wr).heap.size) := ⟨HZ.out⟩
            have n3_ : Aside0 (∀ b, b < w.heap.size → ¬ ok b → b ≠ g7 → (World.drew wr).heap[b]? = w.heap[b]?) := ⟨HF.out⟩
            have hbk7 : (World.drew wr).heap[g7]? = some (.cells #[u_1] 27 (0, 0)) := HG7.out
            have hx7d : (World.drew wr).cell? ⟨g7, 0, none⟩ = some u_1 := (blk_cell hbk7 0).trans rfl
            clear HO HB HZ HF HG7
            have HO := n0_
            have HB := n1_
            have HZ := n2_
            have HF := n3_
            clear n0_ n1_ n2_ n3_
            refine start_ (n := 8) (S := fun w' => w'.cell? ⟨g7, 0, none⟩ = some u_1) (ds := [6, 7]) #[false, false, false, false, false, false, false, false] (by kernel_rfl) rfl rfl (hx7d) (fun hHeld => ?_); refine with_tabW impl_Decide.tab4 impl_Decide.bits4 (fun HT_ HW_ => ?_)
            generalize World.drew wr = w53 at HO HB HZ HF hbk7 hx7d hHeld ⊢
            refine take_ (i := 0) (N := some 23) (v := ?_) (a' := ?_) #[true, false, false, false, false, false, false, false] rfl rfl (take_ofW HT_.out HW_.out (by kernel_rfl)) (fun _ _ _ h => h) (Or.inl ⟨by rfl, ?_⟩) hHeld ?_ ?_
            rotate_left
            · intro w' s0
              go_simp
              with_reducible rfl
            rotate_left
            · simp only [Act.put, List.setIfInBounds_toArray, List.set_cons_zero, List.set_cons_succ, i64_w, i32_w]
              rfl
            refine pure_ (i := 1) (N := some 24) (v := ?_) (a' := ?_) #[true, true, false, false, false, false, false, false] rfl rfl (any_of HT_.out (by kernel_rfl)) (fun _ _ _ h => h) (Or.inl ⟨by rfl, ?_⟩) ?_ ?_
            rotate_left
            · intro w'
              go_simp
              with_reducible rfl
            rotate_left
            · simp only [Act.put, List.setIfInBounds_toArray, List.set_cons_zero, List.set_cons_succ, i64_w, i32_w]
              rfl
            refine pure_ (i := 2) (N := some 25) (v := ?_) (a' := ?_) #[true, true, true, false, false, false, false, false] rfl rfl (any_of HT_.out (by kernel_rfl)) (fun _ _ _ h => h) (Or.inl ⟨by rfl, ?_⟩) ?_ ?_
            rotate_left
            · intro w'
              go_simp
              with_reducible rfl
            rotate_left
            · simp only [Act.put, List.setIfInBounds_toArray, List.set_cons_zero, List.set_cons_succ, i64_w, i32_w]
              rfl
            refine pure_ (i := 3) (N := some 26) (v := ?_) (a' := ?_) #[true, true, true, true, false, false, false, false] rfl rfl (any_of HT_.out (by kernel_rfl)) (fun _ _ _ h => h) (Or.inl ⟨by rfl, ?_⟩) ?_ ?_
            rotate_left
            · intro w'
              go_simp
              with_reducible rfl
            rotate_left
            · simp only [Act.put, List.setIfInBounds_toArray, List.set_cons_zero, List.set_cons_succ, i64_w, i32_w]
              rfl
            refine pure_ (i := 4) (N := some 27) (v := ?_) (a' := ?_) #[true, true, true, true, true, false, false, false] rfl rfl (any_of HT_.out (by kernel_rfl)) (fun _ _ _ h => h) (Or.inl ⟨by rfl, ?_⟩) ?_ ?_
            rotate_left
            · intro w'
              go_simp
              with_reducible rfl
            rotate_left
            · simp only [Act.put, List.setIfInBounds_toArray, List.set_cons_zero, List.set_cons_succ, i64_w, i32_w]
              rfl
            refine one_ (i := 5) (N := some 28) #[true, true, true, true, true, true, false, false] rfl rfl (one_of HT_.out (by kernel_rfl)) (by decide) (fun K hK => ?_)
            refine value_ (w1 := ?_) (v := ?_) (by rfl) rfl ?_ ?_
            rotate_left 2
            · go_simp
              constructor
              · rfl
              · rfl
            refine hK.out _ _ (pw_cell_below (below_alloc (Below.refl _ _) _) hHeld) (fun _ => ?_)
            clear hK K
            refine norm_ (a' := ?_) ?_ ?_
            rotate_left
            · show Act.put _ (some 28) _ = _
              simp only [Act.put, List.setIfInBounds_toArray, List.set_cons_zero, List.set_cons_succ, i64_w, i32_w]
              rfl
            refine last_ (i := 6) (N := some 29) #[true, true, true, true, true, true, true, false] rfl rfl (one_of HT_.out (by kernel_rfl)) (by decide) (fun K hK => ?_)
            refine Kd.R_append_step (Kd.int .i64) (w0 := w0) base (by rfl) (.tmp 23) (.tmp 28) 27 3 (.int .i64 0) 8 rfl Try.underlying27 info3 rfl (by decide) (by omega) _ l_1 (Go.bits .and .i64 ji8 1) [.int .i64 (Go.bits .and .i64 ji8 1)] ok (fun _ => False) rfl rfl ?aP (fun _ hk => hk.elim) ?aF ?aO ?aB ?aS ?aL ?_
            (case aP => exact rfl)
            (case aB => exact HB.out)
            (case aF => exact fun b hb_ => hfr b (Nat.le_trans HZ.out hb_))
            (case aO => exact HO.out)
            (case aS => exact Nat.le_trans hbw HZ.out)
            (case aL => have := LMc27.out; omega)
            intro v134 w31 ho hb hg hat
            have e7 : w31.heap[g7]? = w53.heap[g7]? := hg.block g7 (World.block_lt_of_cell? _ _ hHeld) (fun e_ => h7 (HO.out.1 g7 e_.symm))
            have hk7 : w31.heap[g7]? = some (.cells #[u_1] 27 (0, 0)) := e7.trans hbk7
            have hc7 : w31.cell? ⟨g7, 0, none⟩ = some u_1 := (blk_cell hk7 0).trans rfl
            have hfz7 := blk_frozen hk7 0
            have HF2 : Aside0 (∀ b, b < w.heap.size → ¬ ok b → b ≠ g7 → w31.heap[b]? = w.heap[b]?) := ⟨fun b h1_ h2_ h3_ => (hg.block b (Nat.lt_of_lt_of_le h1_ HZ.out) (fun e_ => h2_ (HO.out.1 b e_.symm))).trans (HF.out b h1_ h2_ h3_)⟩
            have HZ2 : Aside0 (w.heap.size ≤ w31.heap.size) := ⟨Nat.le_trans HZ.out hg.size⟩
            have HB2 := Aside0.mk hb
            have HO2 := Aside0.mk ho
            clear ho hb hg hat e7
            obtain ⟨Ao, nl, co, eo⟩ : ∃ Ao nl co, v134 = Value.slice Ao nl co := by obtain ⟨a_, b_, c_⟩ := Kd.R_slice HO2.out; exact ⟨a_, _, b_, c_⟩
            subst eo
            refine hK.out _ _ ?_
            clear hK K
            refine norm_ (a' := ?_) ?_ ?_
            rotate_left
            · show Act.put _ (some 29) _ = _
              simp only [Act.put, List.setIfInBounds_toArray, List.set_cons_zero, List.set_cons_succ, i64_w, i32_w]
              rfl
            refine last_ (i := 7) (N := none) #[true, true, true, true, true, true, true, true] rfl rfl (one_of HT_.out (by kernel_rfl)) (by decide) (fun K hK => ?_)
            refine skip_ (w1 := w31.setCell ⟨g7, 0, none⟩ (Value.slice Ao nl co)) (by rfl) rfl ?_ ?_
            · go_simp
            refine hK.out _ _ ?_
            clear hK K
            refine done_ (done_of HT_.out (by kernel_rfl)) ?_
            have hc7b : (w31.setCell ⟨g7, 0, none⟩ (Value.slice Ao nl co)).heap[g7]? = some (.cells #[Value.slice Ao nl co] 27 (0, 0)) := blk_put hk7 0 _ rfl
            have n0_ : Aside0 (Kd.R (Kd.int .i64) 3 (w31.setCell ⟨g7, 0, none⟩ (Value.slice Ao nl co)) base ok (Value.slice Ao nl co) (l_1 ++ [Go.bits .and .i64 ji8 1])) := ⟨Kd.R_far HO2.out (fun b hb_ e_ => h7 (by rw [← show b = g7 from e_]; exact hb_)) (Value.slice Ao nl co)⟩
            have n1_ : Aside0 (Below base w0 (w31.setCell ⟨g7, 0, none⟩ (Value.slice Ao nl co))) := ⟨HB2.out.setCell hb7 _⟩
            have n2_ : Aside0 (w.heap.size ≤ (w31.setCell ⟨g7, 0, none⟩ (Value.slice Ao nl co)).heap.size) := ⟨by simpa [World.setCell] using HZ2.out⟩
            have n3_ : Aside0 (∀ b, b < w.heap.size → ¬ ok b → b ≠ g7 → (w31.setCell ⟨g7, 0, none⟩ (Value.slice Ao nl co)).heap[b]? = w.heap[b]?) := ⟨fun b h1_ h2_ h3_ => (Below.heap_setCell w31 ⟨g7, 0, none⟩ (Value.slice Ao nl co) b h3_).trans (HF2.out b h1_ h2_ h3_)⟩
            generalize w31.setCell ⟨g7, 0, none⟩ (Value.slice Ao nl co) = w32 at *
            try go_wp2
            go_roundg k1
            case measure => have := HK1.out; omega
            case rel => exact ⟨(wrap64 (x5_1 - 1)), (l_1 ++ [Go.bits .and .i64 ji8 1]), (Value.slice Ao nl co), (by first | rfl | (simp; done) | (simp [*]; done)), H', ⟨by have := HK1.out; omega⟩, ⟨(by (with_reducible repeat (first | refine blk_drewN ?_ _ | refine blk_drew ?_ | refine blk_alloc ?_ _)); exact hc7b)⟩, ⟨by (with_reducible repeat (first | apply Kd.R_alloc | apply Kd.R_drewN | apply Kd.R_drew)); exact n0_.out⟩, ⟨by repeat (first | (with_reducible first | apply pw_below_drewN | apply below_drew1) | exact n1_.out)⟩, ⟨n2_.out⟩, ⟨n3_.out⟩⟩
          · rw [if_neg c27] at H
            exact absurd H (by simp)
        · rw [if_neg c2] at H
          have c2b0 : decide (0 ≤ x5_1) = false := decide_eq_false c2
          have c2b2 : decide (x5_1 ≥ 0) = false := decide_eq_false c2
          clear c2
          obtain rfl := Option.some.inj H
          go_wp2
          (try simp only [Exit.inBlock, Exit.then])
          refine bodyPost_end (results_none rfl _ _ _) rfl ?_
          exact ⟨⟨_, by first | rfl | (simp; done)⟩, u_1, (by (with_reducible repeat (first | refine blk_drewN ?_ _ | refine blk_drew ?_ | refine blk_alloc ?_ _)); exact HG7.out), by (with_reducible repeat (first | apply Kd.R_alloc | apply Kd.R_drewN | apply Kd.R_drew)); exact HO.out, by repeat (first | (with_reducible first | apply pw_below_drewN | apply below_drew1) | exact HB.out), HZ.out, HF.out⟩
  · rw [if_neg c6] at H
    exact absurd H (by simp)
def impl_Decide.l0 : Nat → List S61 → Int → List Int → Int → Option (List Int × Bool)
  | 0, _, _, _, _ => none
  | k + 1, l1, x6, l, x26 => (if x26 < (l1.length : Int) then (if 0 ≤ x26 then ((impl_sample.f ((rd_T61 l1 x26).f0)).bind fun t1 => (if t1 = true then ((impl_sample.f ((rd_T61 l1 x26).f1)).bind fun t2 => (if t2 = true then ((impl_Decide.put k l x6 ((rd_T61 l1 x26).f0)).bind fun o1 => ((impl_Decide.put k o1 x6 ((rd_T61 l1 x26).f1)).bind fun o2 => (impl_Decide.l0 k l1 x6 o2 (wrap64 (x26 + 1))))) else (some (([] : List Int), false)))) else (some (([] : List Int), false)))) else (none)) else (some (l, true)))
def impl_Decide.f (k : Nat) (a0 : Int) (l1 : List S61) : Option (List Int × Bool) := (impl_isWidth.f a0).bind fun t113 => (if t113 = true then (if (wrap64 ((l1.length : Int) * a0)) > 1024 then (some (([] : List Int), false)) else (impl_Decide.l0 k l1 (wrap64 (Int.tdiv a0 2)) ([] : List Int) 0)) else (some (([] : List Int), false)))
theorem impl_Decide.mono_l : ∀ k, (∀ y0 y1 y2 y3, LeO (impl_Decide.l0 k y0 y1 y2 y3) (impl_Decide.l0 (k + 1) y0 y1 y2 y3))
  | 0 => fun _ _ _ _ r h => by simp [impl_Decide.l0] at h
  | k + 1 => by
    have ih0 := impl_Decide.mono_l k
    intro y0 y1 y2 y3
    unfold impl_Decide.l0
    repeat' first
      | (with_reducible exact ih0 _ _ _ _)
      | (with_reducible exact impl_Decide.mono_p _ _ _ _)
      | (with_reducible exact LeO.refl _)
      | (with_reducible exact LeO.none _)
      | (with_reducible refine LeO.ite ?_ ?_)
      | (with_reducible refine LeO.bind ?_ (fun _ => ?_))
      | exact ih0 _ _ _ _
      | exact impl_Decide.mono_p _ _ _ _
      | exact LeO.none _
      | refine LeO.ite ?_ ?_
      | refine LeO.bind ?_ (fun _ => ?_)
theorem impl_Decide.mono : ∀ a0 a1 k, LeO (impl_Decide.f k a0 a1) (impl_Decide.f (k + 1) a0 a1) := by
  intro a0 a1 k
  have ih0 := impl_Decide.mono_l k
  unfold impl_Decide.f
  repeat' first
      | (with_reducible exact ih0 _ _ _ _)
      | (with_reducible exact LeO.refl _)
      | (with_reducible exact LeO.none _)
      | (with_reducible refine LeO.ite ?_ ?_)
      | (with_reducible refine LeO.bind ?_ (fun _ => ?_))
      | exact ih0 _ _ _ _
      | exact LeO.none _
      | refine LeO.ite ?_ ?_
      | refine LeO.bind ?_ (fun _ => ?_)
theorem cell_of_block' {w w1 : World} {a : Addr} (h : w1.heap[a.block]? = w.heap[a.block]?) : w1.cell? a = w.cell? a := by
  unfold World.cell?
  simp only [h]
theorem dec_box {w w1 : World} {base g : Nat} {ok : Nat → Prop} {u : Value} {l : List Int} (h : Kd.R (Kd.int .i64) 3 w base ok u l) (hb : Below w.heap.size w w1) (hg : g = w.heap.size) : Kd.R (Kd.int .i64) 3 w1 base (fun b => ok b ∧ b ≠ g) u l :=
  Kd.R_below (Kd.R_mono (Kd.R_bound h) (fun b hb_ => ⟨hb_.1, by rw [hg]; exact Nat.ne_of_lt hb_.2.2.1⟩)) hb
theorem dec_drawn {w w1 : World} (h : Drawn0 w w1) : Below w.heap.size w w1 := by
  obtain ⟨nd, rfl⟩ := h
  exact pw_below_drewN (Below.refl _ _) nd
theorem dec_fresh {w : World} {g6 g7 gp b : Nat} {u6 u7 up : Value} (h6 : w.cell? ⟨g6, 0, none⟩ = some u6) (h7 : w.heap[g7]? = some (.cells #[u7] 27 (0, 0))) (hp : w.cell? ⟨gp, 0, none⟩ = some up) (hb : w.heap.size ≤ b) : (b ≠ g6 ∧ b ≠ g7) ∧ b ≠ gp := by
  have l6 : g6 < w.heap.size := World.block_lt_of_cell? _ _ h6
  have l7 : g7 < w.heap.size := blk_lt h7
  have lp : gp < w.heap.size := World.block_lt_of_cell? _ _ hp
  omega
set_option maxHeartbeats 8000000 in
set_option maxRecDepth 100000 in
theorem impl_Decide.calls (k : Nat) (a0 : Int) (A1 : Option Addr) (c1 : Nat) (l1 : List S61) (r1 : List Int) (r2 : Bool) (w : World) (hr1 : Kd.C k61 w A1 l1.length l1) (hc1 : l1.length ≤ c1) (h : impl_Decide.f k a0 l1 = some (r1, r2)) :
    Calls Try.prog 40 #[.int .i64 a0, .slice A1 l1.length c1] w fun e w' => ∃ v0_ : Value, e = .returned (.tuple #[v0_, .bool r2]) ∧ Kd.R (Kd.int .i64) 3 w' w.heap.size (fun _ => True) v0_ r1 ∧ Below w.heap.size w w' := by
  have hu61 := Try.underlying61
  have HR1 := Aside0.mk hr1
  have HC1 := Aside0.mk hc1
  clear hr1 hc1
  have HB := Aside0.mk (Below.refl w.heap.size w)
  have hmf : ∀ (fn : Fn) (first cap : Array Value) (w : World), (Instr.makeFunc fn first cap).run Try.prog w = .ok (.func fn first cap) w := fun _ _ _ _ => rfl
  unfold impl_Decide.f at h
  obtain ⟨t113, A80, H⟩ := Option.bind_eq_some_iff.mp h
  clear h
  have A8 := Aside0.mk A80
  clear A80
  by_cases c9 : t113 = true
  · subst c9
    rw [if_pos rfl] at H
    by_cases c10 : (wrap64 ((l1.length : Int) * a0)) > 1024
    · rw [if_pos c10] at H
      have c10b0 : decide ((wrap64 ((l1.length : Int) * a0)) > 1024) = true := decide_eq_true c10
      clear c10
      simp only [Option.some.injEq, Prod.mk.injEq] at H
      obtain ⟨rfl, rfl⟩ := H
      go_enter Try.func40, Try.ntmps40
      go_wp2_with (first | (go_at_call 80; (with_reducible refine (impl_isWidth.calls a0 true _ A8.out).mono ?_); rintro e w' ⟨rfl, ⟨nd2, rfl⟩⟩))
      go_ret2
      exact ⟨_, by first | rfl | (simp [errW_none, errW_some] <;> rfl) | (simp [*, errW_none, errW_some] <;> rfl), by first | exact Kd.R_nil _ _ _ _ _ , by repeat (first | (with_reducible first | exact HB.out | apply below_alloc | apply pw_below_drewN | apply below_drew1) | exact HB.out)⟩
    · rw [if_neg c10] at H
      have c10b0 : decide ((wrap64 ((l1.length : Int) * a0)) > 1024) = false := decide_eq_false c10
      clear c10
      have H' := Aside0.mk H
      clear H
      go_enter Try.func40, Try.ntmps40
      go_wp2_with (first | (go_at_call 80; (with_reducible refine (impl_isWidth.calls a0 true _ A8.out).mono ?_); rintro e w' ⟨rfl, ⟨nd2, rfl⟩⟩) | ((with_reducible refine gate_dst (N := 6) rfl ?_); refine box_event ?hg (N := 6) ?hd (cs := #[.int .i64 0]) (t := 3) ?hr ?_; (case hd => rfl); (case hg => rfl); (case hr => first | (go_simp; done) | (go_simp; rfl)); intro gb6 hg w5 hbox hb; have n1_ := Aside0.mk (below_step (by repeat (first | (with_reducible first | exact HB.out | apply below_alloc | apply pw_below_drewN | apply below_drew1) | exact HB.out)) hb); have n2_ := Aside0.mk hbox; have n3_ : Aside0 (w.heap.size ≤ gb6) := ⟨by rw [hg]; exact (below_size (by repeat (first | (with_reducible first | exact HB.out | apply below_alloc | apply pw_below_drewN | apply below_drew1) | exact HB.out)))⟩; clear HB; have HB := n1_; have BK6 := n2_; have GE6 := n3_; clear n1_ n2_ n3_; clear hb hbox hg; have hcz6_0 : w5.cell? ⟨gb6, 0, none⟩ = some (.int .i64 0) := (blk_cell BK6.out 0).trans rfl; have hfz6_0 := blk_frozen BK6.out 0) | ((with_reducible refine gate_dst (N := 7) rfl ?_); refine box_event ?hg (N := 7) ?hd (cs := #[.slice none 0 0]) (t := 27) ?hr ?_; (case hd => rfl); (case hg => rfl); (case hr => first | (go_simp; done) | (go_simp; rfl)); intro gb7 hg w6 hbox hb; have n0_ : Aside0 (w6.heap[gb6]? = some (.cells #[.int .i64 (wrap64 (Int.tdiv a0 2))] 3 (0, 0))) := ⟨blk_below (by (with_reducible repeat (first | refine blk_drewN ?_ _ | refine blk_drew ?_ | refine blk_alloc ?_ _)); refine blk_put (cs := #[.int .i64 0]) ?_ 0 _ rfl; (with_reducible repeat (first | refine blk_drewN ?_ _ | refine blk_drew ?_ | refine blk_alloc ?_ _)); exact BK6.out) hb⟩; have n1_ := Aside0.mk (below_step (by repeat (first | (with_reducible first | exact HB.out | apply below_alloc | apply pw_below_drewN | apply below_drew1 | refine below_set ?_ GE6.out) | exact HB.out)) hb); have n2_ := Aside0.mk hbox; have n3_ : Aside0 (gb6 < gb7) := ⟨by rw [hg]; exact blk_lt (o := .cells #[.int .i64 (wrap64 (Int.tdiv a0 2))] 3 (0, 0)) (by (with_reducible repeat (first | refine blk_drewN ?_ _ | refine blk_drew ?_ | refine blk_alloc ?_ _)); refine blk_put (cs := #[.int .i64 0]) ?_ 0 _ rfl; (with_reducible repeat (first | refine blk_drewN ?_ _ | refine blk_drew ?_ | refine blk_alloc ?_ _)); exact BK6.out)⟩; have n4_ : Aside0 (w.heap.size ≤ gb7) := ⟨Nat.le_trans GE6.out (Nat.le_of_lt n3_.out)⟩; clear HB BK6 hcz6_0 hfz6_0; have BK6 := n0_; have HB := n1_; have BK7 := n2_; have G67 := n3_; have GE7 := n4_; clear n0_ n1_ n2_ n3_ n4_; clear hb hbox hg))
      go_loopg [26] k (fun kq v26 w' => ∃ (x7_2 : List Int) (u_2 : Value) (x26_2 : Int), v26 = .int .i64 x26_2 ∧ Aside0 (impl_Decide.l0 kq l1 (wrap64 (Int.tdiv a0 2)) x7_2 x26_2 = some (r1, r2)) ∧ Aside0 (kq ≤ k) ∧ Aside0 (w'.cell? ⟨gb6, 0, none⟩ = some (.int .i64 (wrap64 (Int.tdiv a0 2)))) ∧ Aside0 (w'.heap[gb7]? = some (.cells #[u_2] 27 (0, 0))) ∧ Aside0 (Kd.R (Kd.int .i64) 3 w' w.heap.size (fun b => b ≠ gb6 ∧ b ≠ gb7) u_2 x7_2) ∧ Aside0 (Below w.heap.size w w'))
      case atStart => exact ⟨([] : List Int), (.slice none 0 0), (0), (by first | rfl | (simp; done) | (simp [*]; done)), H', ⟨Nat.le_refl _⟩, ⟨(blk_cell BK6.out 0).trans rfl⟩, ⟨BK7.out⟩, ⟨Kd.R_nil _ _ _ _ _⟩, ⟨by repeat (first | (with_reducible first | exact HB.out | apply below_alloc | apply pw_below_drewN | apply below_drew1) | exact HB.out)⟩⟩
      case round =>
        clear H'
        obtain ⟨x7_2, u_2, x26_2, rfl, HA, HK1, HG6, HG7, HO, HB⟩ := hrel
        cases gk with
        | zero => exact absurd HA.out (by simp [impl_Decide.l0])
        | succ k1 =>
          have H := HA.out
          clear HA
          simp only [impl_Decide.l0] at H
          have hx6 := HG6.out
          have hx7 := HG7.out
          clear HG6 HG7
          by_cases c17 : x26_2 < (l1.length : Int)
          · rw [if_pos c17] at H
            have c17b0 : decide (x26_2 < (l1.length : Int)) = true := decide_eq_true c17
            by_cases c18 : 0 ≤ x26_2
            · rw [if_pos c18] at H
              obtain ⟨t1, A110, H⟩ := Option.bind_eq_some_iff.mp H
              have A11 := Aside0.mk A110
              clear A110
              obtain ⟨ad199, e199, hx199_0, hx199_1⟩ := at_T61 HR1.out x26_2 c18 c17
              cases e199
              replace hx199_0 := (HB.out.cell (World.block_lt_of_cell? w _ hx199_0)).trans hx199_0
              replace hx199_1 := (HB.out.cell (World.block_lt_of_cell? w _ hx199_1)).trans hx199_1
              have p199 := eq_true c18
              have q199 := eq_true c17
              clear c17 c18
              by_cases c19 : t1 = true
              · subst c19
                rw [if_pos rfl] at H
                obtain ⟨t2, A120, H⟩ := Option.bind_eq_some_iff.mp H
                have A12 := Aside0.mk A120
                clear A120
                by_cases c20 : t2 = true
                · subst c20
                  rw [if_pos rfl] at H
                  obtain ⟨o1, A130, H⟩ := Option.bind_eq_some_iff.mp H
                  have A13 := Aside0.mk A130
                  clear A130
                  obtain ⟨o2, A140, H⟩ := Option.bind_eq_some_iff.mp H
                  have A14 := Aside0.mk A140
                  clear A140
                  have H' := Aside0.mk H
                  clear H
                  go_upto_region 9 with (first | ((with_reducible refine gate_dst (N := 10) rfl ?_); refine box_event ?hg (N := 10) ?hd (cs := #[.int .i64 0, .int .i64 0]) (t := 61) ?hr ?_; (case hd => rfl); (case hg => rfl); (case hr => first | (go_simp; done) | (go_simp; rfl)); intro gb200 hg w26 hbox hb; have n0_ := Aside0.mk (dec_box HO.out hb hg); have n1_ := Aside0.mk (below_step HB.out hb); have n2_ := Aside0.mk hbox; have n3_ := Aside0.mk (pw_cell_below hb hx6); have n4_ := Aside0.mk (blk_below hx7 hb); have n5_ : Aside0 (gb6 < gb200 ∧ gb7 < gb200 ∧ w.heap.size ≤ gb200) := ⟨by rw [hg]; exact ⟨World.block_lt_of_cell? _ _ hx6, blk_lt hx7, below_size HB.out⟩⟩; clear HO; clear HB; clear hx6; clear hx7; have HO := n0_; have HB := n1_; have BK200 := n2_; have HG6 := n3_; have HG7 := n4_; have GE200 := n5_; clear n0_ n1_ n2_ n3_ n4_ n5_; clear hb hbox hg; have hcz27_0 : w26.cell? ⟨gb200, 0, none⟩ = some (.int .i64 0) := (blk_cell BK200.out 0).trans rfl; have hcz27_1 : w26.cell? ⟨gb200, 1, none⟩ = some (.int .i64 0) := (blk_cell BK200.out 1).trans rfl; have hfz27_0 := blk_frozen BK200.out 0; have hfz27_1 := blk_frozen BK200.out 1))
                  obtain ⟨w27, hw27⟩ : ∃ w27, w27 = (w26.setCell ⟨gb200, 0, none⟩ (.int .i64 ((rd_T61 l1 x26_2).f0))).setCell ⟨gb200, 1, none⟩ (.int .i64 ((rd_T61 l1 x26_2).f1)) := ⟨_, rfl⟩
                  rw [← hw27]
                  have hx6 : w27.cell? ⟨gb6, 0, none⟩ = some (.int .i64 (wrap64 (Int.tdiv a0 2))) := by rw [hw27, cell_far (Nat.ne_of_lt GE200.out.1), cell_far (Nat.ne_of_lt GE200.out.1)]; exact HG6.out
                  have hx7 : w27.heap[gb7]? = some (.cells #[u_2] 27 (0, 0)) := by rw [hw27]; exact blk_far (blk_far HG7.out (Nat.ne_of_lt GE200.out.2.1) _) (Nat.ne_of_lt GE200.out.2.1) _
                  have hbk : w27.heap[gb200]? = some (.cells #[.int .i64 ((rd_T61 l1 x26_2).f0), .int .i64 ((rd_T61 l1 x26_2).f1)] 61 (0, 0)) := by rw [hw27]; exact blk_put (cs := #[.int .i64 ((rd_T61 l1 x26_2).f0), .int .i64 0]) (blk_put (cs := #[.int .i64 0, .int .i64 0]) BK200.out 0 _ rfl) 1 _ rfl
                  have hp0 : w27.cell? ⟨gb200, 0, none⟩ = some (.int .i64 ((rd_T61 l1 x26_2).f0)) := (blk_cell hbk 0).trans rfl
                  have hp1 : w27.cell? ⟨gb200, 1, none⟩ = some (.int .i64 ((rd_T61 l1 x26_2).f1)) := (blk_cell hbk 1).trans rfl
                  have n0_ : Aside0 (Kd.R (Kd.int .i64) 3 w27 w.heap.size (fun b => (b ≠ gb6 ∧ b ≠ gb7) ∧ b ≠ gb200) u_2 x7_2) := ⟨by rw [hw27]; exact Kd.R_far (Kd.R_far HO.out (fun b hb_ => hb_.2) _) (fun b hb_ => hb_.2) _⟩
                  have n1_ : Aside0 (Below w.heap.size w w27) := ⟨by rw [hw27]; exact (HB.out.setCell GE200.out.2.2 _).setCell GE200.out.2.2 _⟩
                  clear HO HB HG6 HG7 BK200 hbk hcz27_0 hcz27_1 hfz27_0 hfz27_1 hw27
                  have HO := n0_
                  have HB := n1_
                  clear n0_ n1_
                  go_wp2_with (first | (go_at_call 97; (with_reducible refine (impl_sample.calls ((rd_T61 l1 x26_2).f0) true _ A11.out).mono ?_); rintro e w28 ⟨rfl, hd⟩; have hb := dec_drawn hd; clear hd; have n0_ := Aside0.mk (Kd.R_below HO.out hb); have n1_ := Aside0.mk (below_step HB.out hb); have e6 := pw_cell_below hb hx6; have e7 := blk_below hx7 hb; have ep0 := pw_cell_below hb hp0; have ep1 := pw_cell_below hb hp1; clear HO HB hx6 hx7 hp0 hp1 hb; have HO := n0_; have HB := n1_; have hx6 := e6; have hx7 := e7; have hp0 := ep0; have hp1 := ep1; clear n0_ n1_ e6 e7 ep0 ep1) | (go_at_call 97; (with_reducible refine (impl_sample.calls ((rd_T61 l1 x26_2).f1) true _ A12.out).mono ?_); rintro e w28 ⟨rfl, hd⟩; have hb := dec_drawn hd; clear hd; have n0_ := Aside0.mk (Kd.R_below HO.out hb); have n1_ := Aside0.mk (below_step HB.out hb); have e6 := pw_cell_below hb hx6; have e7 := blk_below hx7 hb; have ep0 := pw_cell_below hb hp0; have ep1 := pw_cell_below hb hp1; clear HO HB hx6 hx7 hp0 hp1 hb; have HO := n0_; have HB := n1_; have hx6 := e6; have hx7 := e7; have hp0 := ep0; have hp1 := ep1; clear n0_ n1_ e6 e7 ep0 ep1) | (go_at_call 93; (with_reducible refine (impl_Decide.put_calls k1 (wrap64 (Int.tdiv a0 2)) ((rd_T61 l1 x26_2).f0) x7_2 o1 gb6 gb7 w.heap.size (fun b => (b ≠ gb6 ∧ b ≠ gb7) ∧ b ≠ gb200) u_2 w _ ?s6 ?s7 ?sn ?sb ?sf ?sB ?sw ?sr A13.out).mono ?_); (case s6 => exact hx6); (case s7 => exact hx7); (case sn => exact fun e_ => e_.1.2 rfl); (case sb => exact GE7.out); (case sf => exact fun b hb_ => dec_fresh hx6 hx7 hp0 hb_); (case sB => exact HB.out); (case sw => exact HB.out.size); (case sr => exact HO.out); rintro e w29 ⟨⟨v0_, rfl⟩, u_3, hc7, ho, hb, hz, hf⟩; have n0_ := Aside0.mk ho; have n1_ := Aside0.mk hb; have e6 := (cell_of_block' (a := ⟨gb6, 0, none⟩) (hf gb6 (World.block_lt_of_cell? _ _ hx6) (fun e_ => e_.1.1 rfl) (Nat.ne_of_lt G67.out))).trans hx6; have ep := hf gb200 (World.block_lt_of_cell? _ _ hp0) (fun e_ => e_.2 rfl) (Nat.ne_of_gt GE200.out.2.1); have ep0 := (cell_of_block' (a := ⟨gb200, 0, none⟩) ep).trans hp0; have ep1 := (cell_of_block' (a := ⟨gb200, 1, none⟩) ep).trans hp1; clear HO HB hx6 hx7 hp0 hp1 ep ho hb hz hf; have HO := n0_; have HB := n1_; have hx6 := e6; have hx7 := hc7; have hp0 := ep0; have hp1 := ep1; clear n0_ n1_ e6 hc7 ep0 ep1) | (go_at_call 93; (with_reducible refine (impl_Decide.put_calls k1 (wrap64 (Int.tdiv a0 2)) ((rd_T61 l1 x26_2).f1) o1 o2 gb6 gb7 w.heap.size (fun b => (b ≠ gb6 ∧ b ≠ gb7) ∧ b ≠ gb200) u_3 w _ ?s6 ?s7 ?sn ?sb ?sf ?sB ?sw ?sr A14.out).mono ?_); (case s6 => exact hx6); (case s7 => exact hx7); (case sn => exact fun e_ => e_.1.2 rfl); (case sb => exact GE7.out); (case sf => exact fun b hb_ => dec_fresh hx6 hx7 hp0 hb_); (case sB => exact HB.out); (case sw => exact HB.out.size); (case sr => exact HO.out); rintro e w30 ⟨⟨v0_, rfl⟩, u_4, hc7, ho, hb, hz, hf⟩; have n0_ := Aside0.mk ho; have n1_ := Aside0.mk hb; have e6 := (cell_of_block' (a := ⟨gb6, 0, none⟩) (hf gb6 (World.block_lt_of_cell? _ _ hx6) (fun e_ => e_.1.1 rfl) (Nat.ne_of_lt G67.out))).trans hx6; have ep := hf gb200 (World.block_lt_of_cell? _ _ hp0) (fun e_ => e_.2 rfl) (Nat.ne_of_gt GE200.out.2.1); have ep0 := (cell_of_block' (a := ⟨gb200, 0, none⟩) ep).trans hp0; have ep1 := (cell_of_block' (a := ⟨gb200, 1, none⟩) ep).trans hp1; clear HO HB hx6 hx7 hp0 hp1 ep ho hb hz hf; have HO := n0_; have HB := n1_; have hx6 := e6; have hx7 := hc7; have hp0 := ep0; have hp1 := ep1; clear n0_ n1_ e6 hc7 ep0 ep1))
                  go_roundg k1
                  case measure => have := HK1.out; omega
                  case rel => exact ⟨o2, u_4, (wrap64 (x26_2 + 1)), (by first | rfl | (simp; done) | (simp [*]; done)), H', ⟨by have := HK1.out; omega⟩, ⟨hx6⟩, ⟨hx7⟩, ⟨by (with_reducible repeat (first | apply Kd.R_alloc | apply Kd.R_drewN | apply Kd.R_drew)); exact Kd.R_mono HO.out (fun b hb_ => hb_.1)⟩, ⟨by repeat (first | (with_reducible first | apply pw_below_drewN | apply below_drew1) | exact HB.out)⟩⟩
                · replace c20 := Bool.eq_false_iff.mpr c20
                  subst c20
                  rw [if_neg (show ¬ (false = true) by decide)] at H
                  simp only [Option.some.injEq, Prod.mk.injEq] at H
                  obtain ⟨rfl, rfl⟩ := H
                  go_upto_region 9 with (first | ((with_reducible refine gate_dst (N := 10) rfl ?_); refine box_event ?hg (N := 10) ?hd (cs := #[.int .i64 0, .int .i64 0]) (t := 61) ?hr ?_; (case hd => rfl); (case hg => rfl); (case hr => first | (go_simp; done) | (go_simp; rfl)); intro gb200 hg w26 hbox hb; have n0_ := Aside0.mk (dec_box HO.out hb hg); have n1_ := Aside0.mk (below_step HB.out hb); have n2_ := Aside0.mk hbox; have n3_ := Aside0.mk (pw_cell_below hb hx6); have n4_ := Aside0.mk (blk_below hx7 hb); have n5_ : Aside0 (gb6 < gb200 ∧ gb7 < gb200 ∧ w.heap.size ≤ gb200) := ⟨by rw [hg]; exact ⟨World.block_lt_of_cell? _ _ hx6, blk_lt hx7, below_size HB.out⟩⟩; clear HO; clear HB; clear hx6; clear hx7; have HO := n0_; have HB := n1_; have BK200 := n2_; have HG6 := n3_; have HG7 := n4_; have GE200 := n5_; clear n0_ n1_ n2_ n3_ n4_ n5_; clear hb hbox hg; have hcz27_0 : w26.cell? ⟨gb200, 0, none⟩ = some (.int .i64 0) := (blk_cell BK200.out 0).trans rfl; have hcz27_1 : w26.cell? ⟨gb200, 1, none⟩ = some (.int .i64 0) := (blk_cell BK200.out 1).trans rfl; have hfz27_0 := blk_frozen BK200.out 0; have hfz27_1 := blk_frozen BK200.out 1))
                  obtain ⟨w27, hw27⟩ : ∃ w27, w27 = (w26.setCell ⟨gb200, 0, none⟩ (.int .i64 ((rd_T61 l1 x26_2).f0))).setCell ⟨gb200, 1, none⟩ (.int .i64 ((rd_T61 l1 x26_2).f1)) := ⟨_, rfl⟩
                  rw [← hw27]
                  have hx6 : w27.cell? ⟨gb6, 0, none⟩ = some (.int .i64 (wrap64 (Int.tdiv a0 2))) := by rw [hw27, cell_far (Nat.ne_of_lt GE200.out.1), cell_far (Nat.ne_of_lt GE200.out.1)]; exact HG6.out
                  have hx7 : w27.heap[gb7]? = some (.cells #[u_2] 27 (0, 0)) := by rw [hw27]; exact blk_far (blk_far HG7.out (Nat.ne_of_lt GE200.out.2.1) _) (Nat.ne_of_lt GE200.out.2.1) _
                  have hbk : w27.heap[gb200]? = some (.cells #[.int .i64 ((rd_T61 l1 x26_2).f0), .int .i64 ((rd_T61 l1 x26_2).f1)] 61 (0, 0)) := by rw [hw27]; exact blk_put (cs := #[.int .i64 ((rd_T61 l1 x26_2).f0), .int .i64 0]) (blk_put (cs := #[.int .i64 0, .int .i64 0]) BK200.out 0 _ rfl) 1 _ rfl
                  have hp0 : w27.cell? ⟨gb200, 0, none⟩ = some (.int .i64 ((rd_T61 l1 x26_2).f0)) := (blk_cell hbk 0).trans rfl
                  have hp1 : w27.cell? ⟨gb200, 1, none⟩ = some (.int .i64 ((rd_T61 l1 x26_2).f1)) := (blk_cell hbk 1).trans rfl
                  have n0_ : Aside0 (Kd.R (Kd.int .i64) 3 w27 w.heap.size (fun b => (b ≠ gb6 ∧ b ≠ gb7) ∧ b ≠ gb200) u_2 x7_2) := ⟨by rw [hw27]; exact Kd.R_far (Kd.R_far HO.out (fun b hb_ => hb_.2) _) (fun b hb_ => hb_.2) _⟩
                  have n1_ : Aside0 (Below w.heap.size w w27) := ⟨by rw [hw27]; exact (HB.out.setCell GE200.out.2.2 _).setCell GE200.out.2.2 _⟩
                  clear HO HB HG6 HG7 BK200 hbk hcz27_0 hcz27_1 hfz27_0 hfz27_1 hw27
                  have HO := n0_
                  have HB := n1_
                  clear n0_ n1_
                  go_wp2_with (first | (go_at_call 97; (with_reducible refine (impl_sample.calls ((rd_T61 l1 x26_2).f0) true _ A11.out).mono ?_); rintro e w28 ⟨rfl, hd⟩; have hb := dec_drawn hd; clear hd; have n0_ := Aside0.mk (Kd.R_below HO.out hb); have n1_ := Aside0.mk (below_step HB.out hb); have e6 := pw_cell_below hb hx6; have e7 := blk_below hx7 hb; have ep0 := pw_cell_below hb hp0; have ep1 := pw_cell_below hb hp1; clear HO HB hx6 hx7 hp0 hp1 hb; have HO := n0_; have HB := n1_; have hx6 := e6; have hx7 := e7; have hp0 := ep0; have hp1 := ep1; clear n0_ n1_ e6 e7 ep0 ep1) | (go_at_call 97; (with_reducible refine (impl_sample.calls ((rd_T61 l1 x26_2).f1) false _ A12.out).mono ?_); rintro e w28 ⟨rfl, hd⟩; have hb := dec_drawn hd; clear hd; have n0_ := Aside0.mk (Kd.R_below HO.out hb); have n1_ := Aside0.mk (below_step HB.out hb); have e6 := pw_cell_below hb hx6; have e7 := blk_below hx7 hb; have ep0 := pw_cell_below hb hp0; have ep1 := pw_cell_below hb hp1; clear HO HB hx6 hx7 hp0 hp1 hb; have HO := n0_; have HB := n1_; have hx6 := e6; have hx7 := e7; have hp0 := ep0; have hp1 := ep1; clear n0_ n1_ e6 e7 ep0 ep1))
                  go_ret2
                  exact ⟨_, by first | rfl | (simp [errW_none, errW_some] <;> rfl) | (simp [*, errW_none, errW_some] <;> rfl), by first | exact Kd.R_nil _ _ _ _ _ , by repeat (first | (with_reducible first | exact HB.out | apply below_alloc | apply pw_below_drewN | apply below_drew1) | exact HB.out)⟩
              · replace c19 := Bool.eq_false_iff.mpr c19
                subst c19
                rw [if_neg (show ¬ (false = true) by decide)] at H
                simp only [Option.some.injEq, Prod.mk.injEq] at H
                obtain ⟨rfl, rfl⟩ := H
                go_upto_region 9 with (first | ((with_reducible refine gate_dst (N := 10) rfl ?_); refine box_event ?hg (N := 10) ?hd (cs := #[.int .i64 0, .int .i64 0]) (t := 61) ?hr ?_; (case hd => rfl); (case hg => rfl); (case hr => first | (go_simp; done) | (go_simp; rfl)); intro gb200 hg w26 hbox hb; have n0_ := Aside0.mk (dec_box HO.out hb hg); have n1_ := Aside0.mk (below_step HB.out hb); have n2_ := Aside0.mk hbox; have n3_ := Aside0.mk (pw_cell_below hb hx6); have n4_ := Aside0.mk (blk_below hx7 hb); have n5_ : Aside0 (gb6 < gb200 ∧ gb7 < gb200 ∧ w.heap.size ≤ gb200) := ⟨by rw [hg]; exact ⟨World.block_lt_of_cell? _ _ hx6, blk_lt hx7, below_size HB.out⟩⟩; clear HO; clear HB; clear hx6; clear hx7; have HO := n0_; have HB := n1_; have BK200 := n2_; have HG6 := n3_; have HG7 := n4_; have GE200 := n5_; clear n0_ n1_ n2_ n3_ n4_ n5_; clear hb hbox hg; have hcz27_0 : w26.cell? ⟨gb200, 0, none⟩ = some (.int .i64 0) := (blk_cell BK200.out 0).trans rfl; have hcz27_1 : w26.cell? ⟨gb200, 1, none⟩ = some (.int .i64 0) := (blk_cell BK200.out 1).trans rfl; have hfz27_0 := blk_frozen BK200.out 0; have hfz27_1 := blk_frozen BK200.out 1))
                obtain ⟨w27, hw27⟩ : ∃ w27, w27 = (w26.setCell ⟨gb200, 0, none⟩ (.int .i64 ((rd_T61 l1 x26_2).f0))).setCell ⟨gb200, 1, none⟩ (.int .i64 ((rd_T61 l1 x26_2).f1)) := ⟨_, rfl⟩
                rw [← hw27]
                have hx6 : w27.cell? ⟨gb6, 0, none⟩ = some (.int .i64 (wrap64 (Int.tdiv a0 2))) := by rw [hw27, cell_far (Nat.ne_of_lt GE200.out.1), cell_far (Nat.ne_of_lt GE200.out.1)]; exact HG6.out
                have hx7 : w27.heap[gb7]? = some (.cells #[u_2] 27 (0, 0)) := by rw [hw27]; exact blk_far (blk_far HG7.out (Nat.ne_of_lt GE200.out.2.1) _) (Nat.ne_of_lt GE200.out.2.1) _
                have hbk : w27.heap[gb200]? = some (.cells #[.int .i64 ((rd_T61 l1 x26_2).f0), .int .i64 ((rd_T61 l1 x26_2).f1)] 61 (0, 0)) := by rw [hw27]; exact blk_put (cs := #[.int .i64 ((rd_T61 l1 x26_2).f0), .int .i64 0]) (blk_put (cs := #[.int .i64 0, .int .i64 0]) BK200.out 0 _ rfl) 1 _ rfl
                have hp0 : w27.cell? ⟨gb200, 0, none⟩ = some (.int .i64 ((rd_T61 l1 x26_2).f0)) := (blk_cell hbk 0).trans rfl
                have hp1 : w27.cell? ⟨gb200, 1, none⟩ = some (.int .i64 ((rd_T61 l1 x26_2).f1)) := (blk_cell hbk 1).trans rfl
                have n0_ : Aside0 (Kd.R (Kd.int .i64) 3 w27 w.heap.size (fun b => (b ≠ gb6 ∧ b ≠ gb7) ∧ b ≠ gb200) u_2 x7_2) := ⟨by rw [hw27]; exact Kd.R_far (Kd.R_far HO.out (fun b hb_ => hb_.2) _) (fun b hb_ => hb_.2) _⟩
                have n1_ : Aside0 (Below w.heap.size w w27) := ⟨by rw [hw27]; exact (HB.out.setCell GE200.out.2.2 _).setCell GE200.out.2.2 _⟩
                clear HO HB HG6 HG7 BK200 hbk hcz27_0 hcz27_1 hfz27_0 hfz27_1 hw27
                have HO := n0_
                have HB := n1_
                clear n0_ n1_
                go_wp2_with (first | (go_at_call 97; (with_reducible refine (impl_sample.calls ((rd_T61 l1 x26_2).f0) false _ A11.out).mono ?_); rintro e w28 ⟨rfl, hd⟩; have hb := dec_drawn hd; clear hd; have n0_ := Aside0.mk (Kd.R_below HO.out hb); have n1_ := Aside0.mk (below_step HB.out hb); have e6 := pw_cell_below hb hx6; have e7 := blk_below hx7 hb; have ep0 := pw_cell_below hb hp0; have ep1 := pw_cell_below hb hp1; clear HO HB hx6 hx7 hp0 hp1 hb; have HO := n0_; have HB := n1_; have hx6 := e6; have hx7 := e7; have hp0 := ep0; have hp1 := ep1; clear n0_ n1_ e6 e7 ep0 ep1))
                go_ret2
                exact ⟨_, by first | rfl | (simp [errW_none, errW_some] <;> rfl) | (simp [*, errW_none, errW_some] <;> rfl), by first | exact Kd.R_nil _ _ _ _ _ , by repeat (first | (with_reducible first | exact HB.out | apply below_alloc | apply pw_below_drewN | apply below_drew1) | exact HB.out)⟩
            · rw [if_neg c18] at H
              exact absurd H (by simp)
          · rw [if_neg c17] at H
            have c17b0 : decide (x26_2 < (l1.length : Int)) = false := decide_eq_false c17
            clear c17
            simp only [Option.some.injEq, Prod.mk.injEq] at H
            obtain ⟨rfl, rfl⟩ := H
            have hx7c := (blk_cell hx7 0).trans rfl
            go_wp2
            go_ret2
            exact ⟨_, by first | rfl | (simp [errW_none, errW_some] <;> rfl) | (simp [*, errW_none, errW_some] <;> rfl), by (with_reducible repeat (first | apply Kd.R_alloc | apply Kd.R_drewN | apply Kd.R_drew)); exact Kd.R_mono HO.out (fun _ _ => trivial), by repeat (first | (with_reducible first | apply pw_below_drewN | apply below_drew1) | exact HB.out)⟩
  · replace c9 := Bool.eq_false_iff.mpr c9
    subst c9
    rw [if_neg (show ¬ (false = true) by decide)] at H
    simp only [Option.some.injEq, Prod.mk.injEq] at H
    obtain ⟨rfl, rfl⟩ := H
    go_enter Try.func40, Try.ntmps40
    go_wp2_with (first | (go_at_call 80; (with_reducible refine (impl_isWidth.calls a0 false _ A8.out).mono ?_); rintro e w' ⟨rfl, ⟨nd2, rfl⟩⟩))
    go_ret2
    exact ⟨_, by first | rfl | (simp [errW_none, errW_some] <;> rfl) | (simp [*, errW_none, errW_some] <;> rfl), by first | exact Kd.R_nil _ _ _ _ _ , by repeat (first | (with_reducible first | exact HB.out | apply below_alloc | apply pw_below_drewN | apply below_drew1) | exact HB.out)⟩


end Go.Proofs.Ytnpoimjdkjhcpaa.PFnExactDecide
