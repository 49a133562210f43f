/- The functions that FnMapped reaches, each with its walk; written by a program (own.py). -/
import Derived.Test.YtnpoimjdkjhcpaaQFnMappedx0
import Derived.Test.YtnpoimjdkjhcpaaQFnMappedx3
import Derived.Test.YtnpoimjdkjhcpaaQFnMappedx4
namespace Go.Proofs.Ytnpoimjdkjhcpaa.PFnMapped
open Go.RowKit Go.Proofs.YtnpoimjdkjhcpaaW.PrintWords Go.Proofs.YtnpoimjdkjhcpaaW.PrintLast Go.Proofs.YtnpoimjdkjhcpaaW.PrintMore
attribute [local go_sem] max2_int min2_int max_two min_two max_three min_three max_four min_four   -- for this text's walks alone
set_option linter.unusedVariables false
set_option linter.unusedSimpArgs false

/-! ### impl_Decide: function 40 -/
/-- A call of a function value, by its contract. -/
theorem goesD_ {P : Program} {ops : Array Oper} {Q : Exit → Act → World → Prop} {oi : Oper} {N : Option Tmp} {a : Act} {w : World} {K : Act → World → Prop} {f : FuncId} {fn : Func} {t : Tmp} {xs : Array Operand} {ts : Array TypeId} {cap : Array Value} (hf : P.funcs[f]? = some fn) (hname : (fn.name == "runtime.NumGoroutine") = false) (hb : fn.body.isSome = true) (args : Array Value)
    (hw : Region.wanted oi (yielded ops a.tmps) = true) (hN : oi.dst = N) (hop : oi.op = .call { callee := .value (.tmp t), args := xs, argTypes := ts }) (hev : a.eval (.tmp t) = .func (.func f) #[] cap) (hargs : xs.map a.eval ++ cap = args)
    (h : Calls P f args w fun e w' => ∃ v, e = .returned v ∧ K (a.put N v) w') : if Region.wanted oi (yielded ops a.tmps) = true then Oper.wp P oi a w K Q else K (a.put N undef) w := by
  refine call_ f args hw hN ?_ h
  have he := enters_ hf hname hb args w
  unfold execOp
  simp [hop, resolve, Deferred.ofValue, invoke, hev, hargs, he]
/-- The function inside 'Decide': the rounds over the bits of one number, the highest first. -/
def impl_Decide.v0 : Nat → List Int → Int → Int → Option (List Int)
  | 0, _, _, _ => none
  | k + 1, l, g, x => if 0 ≤ x then (if l.length < 17592186044416 then (impl_Decide.v0 k (l ++ [Go.bits .and .i64 (shr .i64 g x) 1]) g (wrap64 (x - 1))) else (none)) else (some l)
def impl_Decide.put (k : Nat) (l : List Int) (x1 a0 : Int) : Option (List Int) := if 0 ≤ x1 then ((impl_RoundDiv.f k (wrap64 ((wrap64 (a0 + (shl .i64 1 x1))) - 1)) 2).bind fun t1 => ((impl_nearer.f t1 0 (wrap64 ((shl .i64 1 x1) - 1))).bind fun t2 => ((impl_Gray.f t2).bind fun t3 => (impl_Decide.v0 k l t3 (wrap64 (x1 - 1)))))) else (none)
theorem impl_Decide.mono_v : ∀ k, (∀ y0 y1 y2, LeO (impl_Decide.v0 k y0 y1 y2) (impl_Decide.v0 (k + 1) y0 y1 y2))
  | 0 => fun _ _ _ r h => by simp [impl_Decide.v0] at h
  | k + 1 => by
    have ih0 := impl_Decide.mono_v k
    intro y0 y1 y2
    unfold impl_Decide.v0
    repeat' first
      | (with_reducible exact ih0 _ _ _)
      | (with_reducible exact LeO.refl _)
      | (with_reducible exact LeO.none _)
      | (with_reducible refine LeO.ite ?_ ?_)
      | (with_reducible refine LeO.bind ?_ (fun _ => ?_))
      | exact ih0 _ _ _
      | exact LeO.none _
      | refine LeO.ite ?_ ?_
      | refine LeO.bind ?_ (fun _ => ?_)
theorem impl_Decide.mono_p : ∀ k y0 y1 y2, LeO (impl_Decide.put k y0 y1 y2) (impl_Decide.put (k + 1) y0 y1 y2) := by
  intro k y0 y1 y2
  have ih0 := impl_Decide.mono_v k
  unfold impl_Decide.put
  repeat' first
      | (with_reducible exact ih0 _ _ _)
      | (with_reducible exact impl_RoundDiv.mono _ _ _)
      | (with_reducible exact LeO.refl _)
      | (with_reducible exact LeO.none _)
      | (with_reducible refine LeO.ite ?_ ?_)
      | (with_reducible refine LeO.bind ?_ (fun _ => ?_))
      | exact ih0 _ _ _
      | exact impl_RoundDiv.mono _ _ _
      | exact LeO.none _
      | refine LeO.ite ?_ ?_
      | refine LeO.bind ?_ (fun _ => ?_)
def impl_Decide.T0 : Bool × List (List Nat × List Nat) := (true, [([], []), ([], []), ([1], [1]), ([0, 2], [0, 2]), ([3], [3]), ([4], [4]), ([], []), ([6], [6]), ([7], [7]), ([5, 8, 5], [5, 8]), ([9, 9], [9]), ([10, 10, 0, 1, 2, 3, 4, 5, 6, 7, 8, 9, 10], [10])])
def impl_Decide.B0 : List Nat := [0, 0, 2, 7, 15, 31, 0, 64, 192, 511, 1023, 2047]
theorem impl_Decide.tab0 : rtab .any (opsOf Try.f93 0) = impl_Decide.T0 := by kernel_rfl
theorem impl_Decide.bits0 : waitsOk impl_Decide.T0.2 impl_Decide.B0 = true := by kernel_rfl
def impl_Decide.T4 : Bool × List (List Nat × List Nat) := (true, [([], []), ([], []), ([], []), ([1, 2], [1, 2]), ([3], [3]), ([4], [4]), ([0, 5], [0, 5]), ([6, 6, 0, 1, 2, 3, 4, 5, 6], [6])])
def impl_Decide.B4 : List Nat := [0, 0, 0, 6, 14, 30, 63, 127]
theorem impl_Decide.tab4 : rtab .any (opsOf Try.f93 4) = impl_Decide.T4 := by kernel_rfl
theorem impl_Decide.bits4 : waitsOk impl_Decide.T4.2 impl_Decide.B4 = true := by kernel_rfl
theorem cell_of_block {w w1 : World} {g : Nat} (h : w1.heap[g]? = w.heap[g]?) : w1.cell? ⟨g, 0, none⟩ = w.cell? ⟨g, 0, none⟩ := by
  unfold World.cell?
  simp only [h]
set_option maxHeartbeats 8000000 in
set_option maxRecDepth 100000 in
theorem impl_Decide.put_calls (k : Nat) (x1 a0 : Int) (l r : List Int) (g6 g7 base : Nat) (ok : Nat → Prop) (v : Value) (w0 w : World) (hg6 : w.cell? ⟨g6, 0, none⟩ = some (.int .i64 x1)) (hg7 : w.heap[g7]? = some (.cells #[v] 27 (0, 0))) (h7 : ¬ ok g7) (hb7 : base ≤ g7) (hfr : ∀ b, w.heap.size ≤ b → ok b) (hB : Below base w0 w) (hbw : base ≤ w.heap.size) (hr : Kd.R (Kd.int .i64) 3 w base ok v l) (h : impl_Decide.put k l x1 a0 = some r) :
    Calls Try.prog 93 #[.int .i64 a0, .pointer (some ⟨g6, 0, none⟩), .pointer (some ⟨g7, 0, none⟩)] w fun e w' => (∃ v0_, e = .returned v0_) ∧ ∃ u, w'.heap[g7]? = some (.cells #[u] 27 (0, 0)) ∧ Kd.R (Kd.int .i64) 3 w' base ok u r ∧ Below base w0 w' ∧ w.heap.size ≤ w'.heap.size ∧ ∀ b, b < w.heap.size → ¬ ok b → b ≠ g7 → w'.heap[b]? = w.heap[b]? := by
  have HR0 := Aside0.mk hr
  have HB0 := Aside0.mk hB
  clear hr hB
  have H : (if 0 ≤ x1 then ((impl_RoundDiv.f k (wrap64 ((wrap64 (a0 + (shl .i64 1 x1))) - 1)) 2).bind fun t1 => ((impl_nearer.f t1 0 (wrap64 ((shl .i64 1 x1) - 1))).bind fun t2 => ((impl_Gray.f t2).bind fun t3 => (impl_Decide.v0 k l t3 (wrap64 (x1 - 1)))))) else (none)) = some r := h
  clear h
  by_cases c6 : 0 ≤ x1
  · rw [if_pos c6] at H
    have c6b0 := eq_true c6
    have c6b1 : decide (0 ≤ x1) = true := decide_eq_true c6
    clear c6
    obtain ⟨ji7, hji7⟩ : ∃ j_ : Int, (shl .i64 1 x1) = j_ := ⟨_, rfl⟩
    rw [hji7] at H
    have hji7_ : (IntKind.i64.wrap (1 * 2 ^ min x1.toNat 64)) = ji7 := hji7
    have hji7z : x1 ≤ 64 → (IntKind.i64.wrap (1 * 2 ^ x1.toNat)) = ji7 := shl_small hji7
    have hji7u : (IntKind.i64.wrap (2 ^ min x1.toNat 64)) = ji7 := by have h_ := hji7_; rw [Int.one_mul] at h_; exact h_
    have hji7v : x1 ≤ 64 → (IntKind.i64.wrap (2 ^ x1.toNat)) = ji7 := fun hle_ => by have h_ := hji7z hle_; rw [Int.one_mul] at h_; exact h_
    have hji7y : (wrap64 (1 * 2 ^ min x1.toNat 64)) = ji7 := (i64_w _).symm.trans hji7_
    have hji7x : x1 ≤ 64 → (wrap64 (1 * 2 ^ x1.toNat)) = ji7 := fun h_ => (i64_w _).symm.trans (hji7z h_)
    obtain ⟨t1, A10, H⟩ := Option.bind_eq_some_iff.mp H
    have A1 := Aside0.mk A10
    obtain ⟨t2, A20, H⟩ := Option.bind_eq_some_iff.mp H
    have A2 := Aside0.mk A20
    obtain ⟨t3, A30, H⟩ := Option.bind_eq_some_iff.mp H
    have A3 := Aside0.mk A30
    clear A10 A20 A30
    have H' := Aside0.mk H
    clear H
    go_enter Try.func93, Try.ntmps93
    try go_wp2
    have HD := Aside0.mk (show Below w.heap.size w (World.drew w) from below_drew1 (Below.refl _ _))
    have hS : (World.drew w).cell? ⟨g6, 0, none⟩ = some (.int .i64 x1) := hg6
    refine start_ (n := 12) (S := fun w' => w'.cell? ⟨g6, 0, none⟩ = some (.int .i64 x1)) (ds := []) #[false, false, false, false, false, false, false, false, false, false, false, false] (by kernel_rfl) rfl rfl (hS) (fun hHeld => ?_); refine with_tabW impl_Decide.tab0 impl_Decide.bits0 (fun HT_ HW_ => ?_)
    generalize World.drew w = wd at HD hS hHeld ⊢
    refine pure_ (i := 0) (N := some 6) (v := ?_) (a' := ?_) #[true, false, false, false, false, false, false, false, false, false, false, false] rfl rfl (any_of HT_.out (by kernel_rfl)) (fun _ _ _ h => h) (Or.inl ⟨by rfl, ?_⟩) ?_ ?_
    rotate_left
    · intro w'
      go_simp
      with_reducible rfl
    rotate_left
    · simp only [Act.put, List.setIfInBounds_toArray, List.set_cons_zero, List.set_cons_succ, i64_w, i32_w]
      rfl
    refine take_ (i := 1) (N := some 7) (v := ?_) (a' := ?_) #[true, true, false, false, false, false, false, false, false, false, false, false] rfl rfl (take_ofW HT_.out HW_.out (by kernel_rfl)) (fun _ _ _ h => h) (Or.inl ⟨by rfl, ?_⟩) hHeld ?_ ?_
    rotate_left
    · intro w' s0
      go_simp
      with_reducible rfl
    rotate_left
    · simp only [Act.put, List.setIfInBounds_toArray, List.set_cons_zero, List.set_cons_succ, i64_w, i32_w]
      rfl
    refine pure_ (i := 2) (N := some 8) (v := ?_) (a' := ?_) #[true, true, true, false, false, false, false, false, false, false, false, false] rfl rfl (any_of HT_.out (by kernel_rfl)) (fun _ _ _ h => h) (Or.inl ⟨by rfl, ?_⟩) ?_ ?_
    rotate_left
    · intro w'
      go_simp
      with_reducible rfl
    rotate_left
    · simp only [Act.put, List.setIfInBounds_toArray, List.set_cons_zero, List.set_cons_succ, i64_w, i32_w]
      rfl
    refine pure_ (i := 3) (N := some 9) (v := ?_) (a' := ?_) #[true, true, true, true, false, false, false, false, false, false, false, false] rfl rfl (any_of HT_.out (by kernel_rfl)) (fun _ _ _ h => h) (Or.inl ⟨by rfl, ?_⟩) ?_ ?_
    rotate_left
    · intro w'
      go_simp
      with_reducible rfl
    rotate_left
    · simp only [Act.put, List.setIfInBounds_toArray, List.set_cons_zero, List.set_cons_succ, i64_w, i32_w]
      rfl
    refine pure_ (i := 4) (N := some 10) (v := ?_) (a' := ?_) #[true, true, true, true, true, false, false, false, false, false, false, false] rfl rfl (any_of HT_.out (by kernel_rfl)) (fun _ _ _ h => h) (Or.inl ⟨by rfl, ?_⟩) ?_ ?_
    rotate_left
    · intro w'
      go_simp
      with_reducible rfl
    rotate_left
    · simp only [Act.put, List.setIfInBounds_toArray, List.set_cons_zero, List.set_cons_succ, i64_w, i32_w]
      rfl
    refine take_ (i := 6) (N := some 12) (v := ?_) (a' := ?_) #[true, true, true, true, true, false, true, false, false, false, false, false] rfl rfl (take_ofW HT_.out HW_.out (by kernel_rfl)) (fun _ _ _ h => h) (Or.inl ⟨by rfl, ?_⟩) hHeld ?_ ?_
    rotate_left
    · intro w' s0
      go_simp
      with_reducible rfl
    rotate_left
    · simp only [Act.put, List.setIfInBounds_toArray, List.set_cons_zero, List.set_cons_succ, i64_w, i32_w]
      rfl
    refine pure_ (i := 7) (N := some 13) (v := ?_) (a' := ?_) #[true, true, true, true, true, false, true, true, false, false, false, false] rfl rfl (any_of HT_.out (by kernel_rfl)) (fun _ _ _ h => h) (Or.inl ⟨by rfl, ?_⟩) ?_ ?_
    rotate_left
    · intro w'
      go_simp
      with_reducible rfl
    rotate_left
    · simp only [Act.put, List.setIfInBounds_toArray, List.set_cons_zero, List.set_cons_succ, i64_w, i32_w]
      rfl
    refine pure_ (i := 8) (N := some 14) (v := ?_) (a' := ?_) #[true, true, true, true, true, false, true, true, true, false, false, false] rfl rfl (any_of HT_.out (by kernel_rfl)) (fun _ _ _ h => h) (Or.inl ⟨by rfl, ?_⟩) ?_ ?_
    rotate_left
    · intro w'
      go_simp
      with_reducible rfl
    rotate_left
    · simp only [Act.put, List.setIfInBounds_toArray, List.set_cons_zero, List.set_cons_succ, i64_w, i32_w]
      rfl
    refine one_ (i := 5) (N := some 11) #[true, true, true, true, true, true, true, true, true, false, false, false] rfl rfl (one_of HT_.out (by kernel_rfl)) (by decide) (fun K hK => ?_)
    refine goes_ Try.func96 (by kernel_rfl) rfl #[.int .i64 (wrap64 ((wrap64 (a0 + ji7)) - 1)), .int .i64 2] (by rfl) rfl rfl (by (try simp only [List.map_toArray, List.map_cons, List.map_nil]); first | done | rfl | (simp; done) | (simp; rfl)) ?_
    with_reducible refine (impl_RoundDiv.calls k (wrap64 ((wrap64 (a0 + ji7)) - 1)) 2 t1 _ A1.out).mono ?_
    rintro e w' ⟨rfl, ⟨nd, rfl⟩⟩
    refine ⟨_, rfl, ?_⟩
    refine hK.out _ _ (hHeld) (fun hHeld => ?_)
    clear hK K
    refine norm_ (a' := ?_) ?_ ?_
    rotate_left
    · show Act.put _ (some 11) _ = _
      simp only [Act.put, List.setIfInBounds_toArray, List.set_cons_zero, List.set_cons_succ, i64_w, i32_w]
      rfl
    refine one_ (i := 9) (N := some 15) #[true, true, true, true, true, true, true, true, true, true, false, false] rfl rfl (one_of HT_.out (by kernel_rfl)) (by decide) (fun K hK => ?_)
    refine goes_ Try.func95 (by kernel_rfl) rfl #[.int .i64 t1, .int .i64 0, .int .i64 (wrap64 (ji7 - 1))] (by rfl) rfl rfl (by (try simp only [List.map_toArray, List.map_cons, List.map_nil]); first | done | rfl | (simp; done) | (simp; rfl)) ?_
    with_reducible refine (impl_nearer.calls t1 0 (wrap64 (ji7 - 1)) t2 _ A2.out).mono ?_
    rintro e w18 ⟨rfl, hb⟩
    refine ⟨_, rfl, ?_⟩
    have HD2 := Aside0.mk (below_step (pw_below_drewN HD.out _) hb)
    clear HD
    refine hK.out _ _ (pw_cell_below hb hHeld) (fun hHeld => ?_)
    clear hK K
    refine norm_ (a' := ?_) ?_ ?_
    rotate_left
    · show Act.put _ (some 15) _ = _
      simp only [Act.put, List.setIfInBounds_toArray, List.set_cons_zero, List.set_cons_succ, i64_w, i32_w]
      rfl
    refine one_ (i := 10) (N := some 16) #[true, true, true, true, true, true, true, true, true, true, true, false] rfl rfl (one_of HT_.out (by kernel_rfl)) (by decide) (fun K hK => ?_)
    refine goes_ Try.func94 (by kernel_rfl) rfl #[.int .i64 t2] (by rfl) rfl rfl (by (try simp only [List.map_toArray, List.map_cons, List.map_nil]); first | done | rfl | (simp; done) | (simp; rfl)) ?_
    with_reducible refine (impl_Gray.calls t2 t3 _ A3.out).mono ?_
    rintro e w' ⟨rfl, ⟨nd, rfl⟩⟩
    refine ⟨_, rfl, ?_⟩
    refine hK.out _ _ (hHeld) (fun hHeld => ?_)
    clear hK K
    refine norm_ (a' := ?_) ?_ ?_
    rotate_left
    · show Act.put _ (some 16) _ = _
      simp only [Act.put, List.setIfInBounds_toArray, List.set_cons_zero, List.set_cons_succ, i64_w, i32_w]
      rfl
    refine pure_ (i := 11) (N := some 4) (v := ?_) (a' := ?_) #[true, true, true, true, true, true, true, true, true, true, true, true] rfl rfl (any_of HT_.out (by kernel_rfl)) (fun _ _ _ h => h) (Or.inl ⟨by rfl, ?_⟩) ?_ ?_
    rotate_left
    · intro w'
      go_simp
      with_reducible rfl
    rotate_left
    · simp only [Act.put, List.setIfInBounds_toArray, List.set_cons_zero, List.set_cons_succ, i64_w, i32_w]
      rfl
    refine done_ (done_of HT_.out (by kernel_rfl)) ?_
    try go_wp2
    have hx7_ : w18.heap[g7]? = some (.cells #[v] 27 (0, 0)) := blk_below hg7 HD2.out
    go_loopg [5] k (fun kq v5 w' => ∃ (x5_1 : Int) (l_1 : List Int) (u_1 : Value), v5 = .int .i64 x5_1 ∧ Aside0 (impl_Decide.v0 kq l_1 t3 x5_1 = some r) ∧ Aside0 (kq ≤ k) ∧ Aside0 (w'.heap[g7]? = some (.cells #[u_1] 27 (0, 0))) ∧ Aside0 (Kd.R (Kd.int .i64) 3 w' base ok u_1 l_1) ∧ Aside0 (Below base w0 w') ∧ Aside0 (w.heap.size ≤ w'.heap.size) ∧ Aside0 (∀ b, b < w.heap.size → ¬ ok b → b ≠ g7 → w'.heap[b]? = w.heap[b]?))
    case atStart => exact ⟨(wrap64 (x1 - 1)), l, v, (by first | rfl | (simp; done) | (simp [*]; done)), H', ⟨Nat.le_refl _⟩, ⟨(by (with_reducible repeat (first | refine blk_drewN ?_ _ | refine blk_drew ?_ | refine blk_alloc ?_ _)); exact hx7_)⟩, ⟨by (with_reducible repeat (first | apply Kd.R_alloc | apply Kd.R_drewN | apply Kd.R_drew)); exact Kd.R_below HR0.out HD2.out⟩, ⟨by repeat (first | (with_reducible first | apply pw_below_drewN | apply below_drew1) | exact below_then HB0.out hbw HD2.out)⟩, ⟨HD2.out.size⟩, ⟨fun b h1_ _ _ => HD2.out.block b h1_⟩⟩
    case round =>
      clear H' hx7_
      obtain ⟨x5_1, l_1, u_1, rfl, HA, HK1, HG7, HO, HB, HZ, HF⟩ := hrel
      cases gk with
      | zero => exact absurd HA.out (by simp [impl_Decide.v0])
      | succ k1 =>
        have H := HA.out
        clear HA
        simp only [impl_Decide.v0] at H
        by_cases c2 : 0 ≤ x5_1
        · rw [if_pos c2] at H
          have c2b0 := eq_true c2
          have c2b1 : decide (0 ≤ x5_1) = true := decide_eq_true c2
          have c2b2 : decide (x5_1 ≥ 0) = true := decide_eq_true c2
          clear c2
          by_cases c27 : l_1.length < 17592186044416
          · rw [if_pos c27] at H
            have LMc27 := Aside0.mk c27
            clear c27
            obtain ⟨ji8, hji8⟩ : ∃ j_ : Int, (shr .i64 t3 x5_1) = j_ := ⟨_, rfl⟩
            rw [hji8] at H
            have hji8_ : (t3 / 2 ^ min x5_1.toNat 64) = ji8 := hji8
            have hji8z : x5_1 ≤ 64 → (t3 / 2 ^ x5_1.toNat) = ji8 := shr_small hji8
            have H' := Aside0.mk H
            clear H
            try go_wp2
            have n0_ := Aside0.mk (Kd.R_drew HO.out)
            have n1_ := Aside0.mk (below_drew1 HB.out)
            have n2_ : Aside0 (w.heap.size ≤ (World.drew wr).heap.size) := ⟨HZ.out⟩
            have n3_ : Aside0 (∀ b, b < w.heap.size → ¬ ok b → b ≠ g7 → (World.drew wr).heap[b]? = w.heap[b]?) := ⟨HF.out⟩
            have hbk7 : (World.drew wr).heap[g7]? = some (.cells #[u_1] 27 (0, 0)) := HG7.out
            have hx7d : (World.drew wr).cell? ⟨g7, 0, none⟩ = some u_1 := (blk_cell hbk7 0).trans rfl
            clear HO HB HZ HF HG7
            have HO := n0_
            have HB := n1_
            have HZ := n2_
            have HF := n3_
            clear n0_ n1_ n2_ n3_
            refine start_ (n := 8) (S := fun w' => w'.cell? ⟨g7, 0, none⟩ = some u_1) (ds := [6, 7]) #[false, false, false, false, false, false, false, false] (by kernel_rfl) rfl rfl (hx7d) (fun hHeld => ?_); refine with_tabW impl_Decide.tab4 impl_Decide.bits4 (fun HT_ HW_ => ?_)
            generalize World.drew wr = w53 at HO HB HZ HF hbk7 hx7d hHeld ⊢
            refine take_ (i := 0) (N := some 23) (v := ?_) (a' := ?_) #[true, false, false, false, false, false, false, false] rfl rfl (take_ofW HT_.out HW_.out (by kernel_rfl)) (fun _ _ _ h => h) (Or.inl ⟨by rfl, ?_⟩) hHeld ?_ ?_
            rotate_left
            · intro w' s0
              go_simp
              with_reducible rfl
            rotate_left
            · simp only [Act.put, List.setIfInBounds_toArray, List.set_cons_zero, List.set_cons_succ, i64_w, i32_w]
              rfl
            refine pure_ (i := 1) (N := some 24) (v := ?_) (a' := ?_) #[true, true, false, false, false, false, false, false] rfl rfl (any_of HT_.out (by kernel_rfl)) (fun _ _ _ h => h) (Or.inl ⟨by rfl, ?_⟩) ?_ ?_
            rotate_left
            · intro w'
              go_simp
              with_reducible rfl
            rotate_left
            · simp only [Act.put, List.setIfInBounds_toArray, List.set_cons_zero, List.set_cons_succ, i64_w, i32_w]
              rfl
            refine pure_ (i := 2) (N := some 25) (v := ?_) (a' := ?_) #[true, true, true, false, false, false, false, false] rfl rfl (any_of HT_.out (by kernel_rfl)) (fun _ _ _ h => h) (Or.inl ⟨by rfl, ?_⟩) ?_ ?_
            rotate_left
            · intro w'
              go_simp
              with_reducible rfl
            rotate_left
            · simp only [Act.put, List.setIfInBounds_toArray, List.set_cons_zero, List.set_cons_succ, i64_w, i32_w]
              rfl
            refine pure_ (i := 3) (N := some 26) (v := ?_) (a' := ?_) #[true, true, true, true, false, false, false, false] rfl rfl (any_of HT_.out (by kernel_rfl)) (fun _ _ _ h => h) (Or.inl ⟨by rfl, ?_⟩) ?_ ?_
            rotate_left
            · intro w'
              go_simp
              with_reducible rfl
            rotate_left
            · simp only [Act.put, List.setIfInBounds_toArray, List.set_cons_zero, List.set_cons_succ, i64_w, i32_w]
              rfl
            refine pure_ (i := 4) (N := some 27) (v := ?_) (a' := ?_) #[true, true, true, true, true, false, false, false] rfl rfl (any_of HT_.out (by kernel_rfl)) (fun _ _ _ h => h) (Or.inl ⟨by rfl, ?_⟩) ?_ ?_
            rotate_left
            · intro w'
              go_simp
              with_reducible rfl
            rotate_left
            · simp only [Act.put, List.setIfInBounds_toArray, List.set_cons_zero, List.set_cons_succ, i64_w, i32_w]
              rfl
            refine one_ (i := 5) (N := some 28) #[true, true, true, true, true, true, false, false] rfl rfl (one_of HT_.out (by kernel_rfl)) (by decide) (fun K hK => ?_)
            refine value_ (w1 := ?_) (v := ?_) (by rfl) rfl ?_ ?_
            rotate_left 2
            · go_simp
              constructor
              · rfl
              · rfl
            refine hK.out _ _ (pw_cell_below (below_alloc (Below.refl _ _) _) hHeld) (fun _ => ?_)
            clear hK K
            refine norm_ (a' := ?_) ?_ ?_
            rotate_left
            · show Act.put _ (some 28) _ = _
              simp only [Act.put, List.setIfInBounds_toArray, List.set_cons_zero, List.set_cons_succ, i64_w, i32_w]
              rfl
            refine last_ (i := 6) (N := some 29) #[true, true, true, true, true, true, true, false] rfl rfl (one_of HT_.out (by kernel_rfl)) (by decide) (fun K hK => ?_)
            refine Kd.R_append_step (Kd.int .i64) (w0 := w0) base (by rfl) (.tmp 23) (.tmp 28) 27 3 (.int .i64 0) 8 rfl Try.underlying27 info3 rfl (by decide) (by omega) _ l_1 (Go.bits .and .i64 ji8 1) [.int .i64 (Go.bits .and .i64 ji8 1)] ok (fun _ => False) rfl rfl ?aP (fun _ hk => hk.elim) ?aF ?aO ?aB ?aS ?aL ?_
            (case aP => exact rfl)
            (case aB => exact HB.out)
            (case aF => exact fun b hb_ => hfr b (Nat.le_trans HZ.out hb_))
            (case aO => exact HO.out)
            (case aS => exact Nat.le_trans hbw HZ.out)
            (case aL => have := LMc27.out; omega)
            intro v134 w31 ho hb hg hat
            have e7 : w31.heap[g7]? = w53.heap[g7]? := hg.block g7 (World.block_lt_of_cell? _ _ hHeld) (fun e_ => h7 (HO.out.1 g7 e_.symm))
            have hk7 : w31.heap[g7]? = some (.cells #[u_1] 27 (0, 0)) := e7.trans hbk7
            have hc7 : w31.cell? ⟨g7, 0, none⟩ = some u_1 := (blk_cell hk7 0).trans rfl
            have hfz7 := blk_frozen hk7 0
            have HF2 : Aside0 (∀ b, b < w.heap.size → ¬ ok b → b ≠ g7 → w31.heap[b]? = w.heap[b]?) := ⟨fun b h1_ h2_ h3_ => (hg.block b (Nat.lt_of_lt_of_le h1_ HZ.out) (fun e_ => h2_ (HO.out.1 b e_.symm))).trans (HF.out b h1_ h2_ h3_)⟩
            have HZ2 : Aside0 (w.heap.size ≤ w31.heap.size) := ⟨Nat.le_trans HZ.out hg.size⟩
            have HB2 := Aside0.mk hb
            have HO2 := Aside0.mk ho
            clear ho hb hg hat e7
            obtain ⟨Ao, nl, co, eo⟩ : ∃ Ao nl co, v134 = Value.slice Ao nl co := by obtain ⟨a_, b_, c_⟩ := Kd.R_slice HO2.out; exact ⟨a_, _, b_, c_⟩
            subst eo
            refine hK.out _ _ ?_
            clear hK K
            refine norm_ (a' := ?_) ?_ ?_
            rotate_left
            · show Act.put _ (some 29) _ = _
              simp only [Act.put, List.setIfInBounds_toArray, List.set_cons_zero, List.set_cons_succ, i64_w, i32_w]
              rfl
            refine last_ (i := 7) (N := none) #[true, true, true, true, true, true, true, true] rfl rfl (one_of HT_.out (by kernel_rfl)) (by decide) (fun K hK => ?_)
            refine skip_ (w1 := w31.setCell ⟨g7, 0, none⟩ (Value.slice Ao nl co)) (by rfl) rfl ?_ ?_
            · go_simp
            refine hK.out _ _ ?_
            clear hK K
            refine done_ (done_of HT_.out (by kernel_rfl)) ?_
            have hc7b : (w31.setCell ⟨g7, 0, none⟩ (Value.slice Ao nl co)).heap[g7]? = some (.cells #[Value.slice Ao nl co] 27 (0, 0)) := blk_put hk7 0 _ rfl
            have n0_ : Aside0 (Kd.R (Kd.int .i64) 3 (w31.setCell ⟨g7, 0, none⟩ (Value.slice Ao nl co)) base ok (Value.slice Ao nl co) (l_1 ++ [Go.bits .and .i64 ji8 1])) := ⟨Kd.R_far HO2.out (fun b hb_ e_ => h7 (by rw [← show b = g7 from e_]; exact hb_)) (Value.slice Ao nl co)⟩
            have n1_ : Aside0 (Below base w0 (w31.setCell ⟨g7, 0, none⟩ (Value.slice Ao nl co))) := ⟨HB2.out.setCell hb7 _⟩
            have n2_ : Aside0 (w.heap.size ≤ (w31.setCell ⟨g7, 0, none⟩ (Value.slice Ao nl co)).heap.size) := ⟨by simpa [World.setCell] using HZ2.out⟩
            have n3_ : Aside0 (∀ b, b < w.heap.size → ¬ ok b → b ≠ g7 → (w31.setCell ⟨g7, 0, none⟩ (Value.slice Ao nl co)).heap[b]? = w.heap[b]?) := ⟨fun b h1_ h2_ h3_ => (Below.heap_setCell w31 ⟨g7, 0, none⟩ (Value.slice Ao nl co) b h3_).trans (HF2.out b h1_ h2_ h3_)⟩
            generalize w31.setCell ⟨g7, 0, none⟩ (Value.slice Ao nl co) = w32 at *
            try go_wp2
            go_roundg k1
            case measure => have := HK1.out; omega
            case rel => exact ⟨(wrap64 (x5_1 - 1)), (l_1 ++ [Go.bits .and .i64 ji8 1]), (Value.slice Ao nl co), (by first | rfl | (simp; done) | (simp [*]; done)), H', ⟨by have := HK1.out; omega⟩, ⟨(by (with_reducible repeat (first | refine blk_drewN ?_ _ | refine blk_drew ?_ | refine blk_alloc ?_ _)); exact hc7b)⟩, ⟨by (with_reducible repeat (first | apply Kd.R_alloc | apply Kd.R_drewN | apply Kd.R_drew)); exact n0_.out⟩, ⟨by repeat (first | (with_reducible first | apply pw_below_drewN | apply below_drew1) | exact n1_.out)⟩, ⟨n2_.out⟩, ⟨n3_.out⟩⟩
          · rw [if_neg c27] at H
            exact absurd H (by simp)
        · rw [if_neg c2] at H
          have c2b0 : decide (0 ≤ x5_1) = false := decide_eq_false c2
          have c2b2 : decide (x5_1 ≥ 0) = false := decide_eq_false c2
          clear c2
          obtain rfl := Option.some.inj H
          go_wp2
          (try simp only [Exit.inBlock, Exit.then])
          refine bodyPost_end (results_none rfl _ _ _) rfl ?_
          exact ⟨⟨_, by first | rfl | (simp; done)⟩, u_1, (by (with_reducible repeat (first | refine blk_drewN ?_ _ | refine blk_drew ?_ | refine blk_alloc ?_ _)); exact HG7.out), by (with_reducible repeat (first | apply Kd.R_alloc | apply Kd.R_drewN | apply Kd.R_drew)); exact HO.out, by repeat (first | (with_reducible first | apply pw_below_drewN | apply below_drew1) | exact HB.out), HZ.out, HF.out⟩
  · rw [if_neg c6] at H
    exact absurd H (by simp)
def impl_Decide.l0 : Nat → List S61 → Int → List Int → Int → Option (List Int × Bool)
  | 0, _, _, _, _ => none
  | k + 1, l1, x6, l, x26 => (if x26 < (l1.length : Int) then (if 0 ≤ x26 then ((impl_sample.f ((rd_T61 l1 x26).f0)).bind fun t1 => (if t1 = true then ((impl_sample.f ((rd_T61 l1 x26).f1)).bind fun t2 => (if t2 = true then ((impl_Decide.put k l x6 ((rd_T61 l1 x26).f0)).bind fun o1 => ((impl_Decide.put k o1 x6 ((rd_T61 l1 x26).f1)).bind fun o2 => (impl_Decide.l0 k l1 x6 o2 (wrap64 (x26 + 1))))) else (some (([] : List Int), false)))) else (some (([] : List Int), false)))) else (none)) else (some (l, true)))
def impl_Decide.f (k : Nat) (a0 : Int) (l1 : List S61) : Option (List Int × Bool) := (impl_isWidth.f a0).bind fun t113 => (if t113 = true then (if (wrap64 ((l1.length : Int) * a0)) > 1024 then (some (([] : List Int), false)) else (impl_Decide.l0 k l1 (wrap64 (Int.tdiv a0 2)) ([] : List Int) 0)) else (some (([] : List Int), false)))
theorem impl_Decide.mono_l : ∀ k, (∀ y0 y1 y2 y3, LeO (impl_Decide.l0 k y0 y1 y2 y3) (impl_Decide.l0 (k + 1) y0 y1 y2 y3))
  | 0 => fun _ _ _ _ r h => by simp [impl_Decide.l0] at h
  | k + 1 => by
    have ih0 := impl_Decide.mono_l k
    intro y0 y1 y2 y3
    unfold impl_Decide.l0
    repeat' first
      | (with_reducible exact ih0 _ _ _ _)
      | (with_reducible exact impl_Decide.mono_p _ _ _ _)
      | (with_reducible exact LeO.refl _)
      | (with_reducible exact LeO.none _)
      | (with_reducible refine LeO.ite ?_ ?_)
      | (with_reducible refine LeO.bind ?_ (fun _ => ?_))
      | exact ih0 _ _ _ _
      | exact impl_Decide.mono_p _ _ _ _
      | exact LeO.none _
      | refine LeO.ite ?_ ?_
      | refine LeO.bind ?_ (fun _ => ?_)
theorem impl_Decide.mono : ∀ a0 a1 k, LeO (impl_Decide.f k a0 a1) (impl_Decide.f (k + 1) a0 a1) := by
  intro a0 a1 k
  have ih0 := impl_Decide.mono_l k
  unfold impl_Decide.f
  repeat' first
      | (with_reducible exact ih0 _ _ _ _)
      | (with_reducible exact LeO.refl _)
      | (with_reducible exact LeO.none _)
      | (with_reducible refine LeO.ite ?_ ?_)
      | (with_reducible refine LeO.bind ?_ (fun _ => ?_))
      | exact ih0 _ _ _ _
      | exact LeO.none _
      | refine LeO.ite ?_ ?_
      | refine LeO.bind ?_ (fun _ => ?_)
theorem cell_of_block' {w w1 : World} {a : Addr} (h : w1.heap[a.block]? = w.heap[a.block]?) : w1.cell? a = w.cell? a := by
  unfold World.cell?
  simp only [h]
theorem dec_box {w w1 : World} {base g : Nat} {ok : Nat → Prop} {u : Value} {l : List Int} (h : Kd.R (Kd.int .i64) 3 w base ok u l) (hb : Below w.heap.size w w1) (hg : g = w.heap.size) : Kd.R (Kd.int .i64) 3 w1 base (fun b => ok b ∧ b ≠ g) u l :=
  Kd.R_below (Kd.R_mono (Kd.R_bound h) (fun b hb_ => ⟨hb_.1, by rw [hg]; exact Nat.ne_of_lt hb_.2.2.1⟩)) hb
theorem dec_drawn {w w1 : World} (h : Drawn0 w w1) : Below w.heap.size w w1 := by
  obtain ⟨nd, rfl⟩ := h
  exact pw_below_drewN (Below.refl _ _) nd
theorem dec_fresh {w : World} {g6 g7 gp b : Nat} {u6 u7 up : Value} (h6 : w.cell? ⟨g6, 0, none⟩ = some u6) (h7 : w.heap[g7]? = some (.cells #[u7] 27 (0, 0))) (hp : w.cell? ⟨gp, 0, none⟩ = some up) (hb : w.heap.size ≤ b) : (b ≠ g6 ∧ b ≠ g7) ∧ b ≠ gp := by
  have l6 : g6 < w.heap.size := World.block_lt_of_cell? _ _ h6
  have l7 : g7 < w.heap.size := blk_lt h7
  have lp : gp < w.heap.size := World.block_lt_of_cell? _ _ hp
  omega
set_option maxHeartbeats 8000000 in
set_option maxRecDepth 100000 in
theorem impl_Decide.calls (k : Nat) (a0 : Int) (A1 : Option Addr) (c1 : Nat) (l1 : List S61) (r1 : List Int) (r2 : Bool) (w : World) (hr1 : Kd.C k61 w A1 l1.length l1) (hc1 : l1.length ≤ c1) (h : impl_Decide.f k a0 l1 = some (r1, r2)) :
    Calls Try.prog 40 #[.int .i64 a0, .slice A1 l1.length c1] w fun e w' => ∃ v0_ : Value, e = .returned (.tuple #[v0_, .bool r2]) ∧ Kd.R (Kd.int .i64) 3 w' w.heap.size (fun _ => True) v0_ r1 ∧ Below w.heap.size w w' := by
  have hu61 := Try.underlying61
  have HR1 := Aside0.mk hr1
  have HC1 := Aside0.mk hc1
  clear hr1 hc1
  have HB := Aside0.mk (Below.refl w.heap.size w)
  have hmf : ∀ (fn : Fn) (first cap : Array Value) (w : World), (Instr.makeFunc fn first cap).run Try.prog w = .ok (.func fn first cap) w := fun _ _ _ _ => rfl
  unfold impl_Decide.f at h
  obtain ⟨t113, A80, H⟩ := Option.bind_eq_some_iff.mp h
  clear h
  have A8 := Aside0.mk A80
  clear A80
  by_cases c9 : t113 = true
  · subst c9
    rw [if_pos rfl] at H
    by_cases c10 : (wrap64 ((l1.length : Int) * a0)) > 1024
    · rw [if_pos c10] at H
      have c10b0 : decide ((wrap64 ((l1.length : Int) * a0)) > 1024) = true := decide_eq_true c10
      clear c10
      simp only [Option.some.injEq, Prod.mk.injEq] at H
      obtain ⟨rfl, rfl⟩ := H
      go_enter Try.func40, Try.ntmps40
      go_wp2_with (first | (go_at_call 80; (with_reducible refine (impl_isWidth.calls a0 true _ A8.out).mono ?_); rintro e w' ⟨rfl, ⟨nd2, rfl⟩⟩))
      go_ret2
      exact ⟨_, by first | rfl | (simp [errW_none, errW_some] <;> rfl) | (simp [*, errW_none, errW_some] <;> rfl), by first | exact Kd.R_nil _ _ _ _ _ , by repeat (first | (with_reducible first | exact HB.out | apply below_alloc | apply pw_below_drewN | apply below_drew1) | exact HB.out)⟩
    · rw [if_neg c10] at H
      have c10b0 : decide ((wrap64 ((l1.length : Int) * a0)) > 1024) = false := decide_eq_false c10
      clear c10
      have H' := Aside0.mk H
      clear H
      go_enter Try.func40, Try.ntmps40
      go_wp2_with (first | (go_at_call 80; (with_reducible refine (impl_isWidth.calls a0 true _ A8.out).mono ?_); rintro e w' ⟨rfl, ⟨nd2, rfl⟩⟩) | ((with_reducible refine gate_dst (N := 6) rfl ?_); refine box_event ?hg (N := 6) ?hd (cs := #[.int .i64 0]) (t := 3) ?hr ?_; (case hd => rfl); (case hg => rfl); (case hr => first | (go_simp; done) | (go_simp; rfl)); intro gb6 hg w5 hbox hb; have n1_ := Aside0.mk (below_step (by repeat (first | (with_reducible first | exact HB.out | apply below_alloc | apply pw_below_drewN | apply below_drew1) | exact HB.out)) hb); have n2_ := Aside0.mk hbox; have n3_ : Aside0 (w.heap.size ≤ gb6) := ⟨by rw [hg]; exact (below_size (by repeat (first | (with_reducible first | exact HB.out | apply below_alloc | apply pw_below_drewN | apply below_drew1) | exact HB.out)))⟩; clear HB; have HB := n1_; have BK6 := n2_; have GE6 := n3_; clear n1_ n2_ n3_; clear hb hbox hg; have hcz6_0 : w5.cell? ⟨gb6, 0, none⟩ = some (.int .i64 0) := (blk_cell BK6.out 0).trans rfl; have hfz6_0 := blk_frozen BK6.out 0) | ((with_reducible refine gate_dst (N := 7) rfl ?_); refine box_event ?hg (N := 7) ?hd (cs := #[.slice none 0 0]) (t := 27) ?hr ?_; (case hd => rfl); (case hg => rfl); (case hr => first | (go_simp; done) | (go_simp; rfl)); intro gb7 hg w6 hbox hb; have n0_ : Aside0 (w6.heap[gb6]? = some (.cells #[.int .i64 (wrap64 (Int.tdiv a0 2))] 3 (0, 0))) := ⟨blk_below (by (with_reducible repeat (first | refine blk_drewN ?_ _ | refine blk_drew ?_ | refine blk_alloc ?_ _)); refine blk_put (cs := #[.int .i64 0]) ?_ 0 _ rfl; (with_reducible repeat (first | refine blk_drewN ?_ _ | refine blk_drew ?_ | refine blk_alloc ?_ _)); exact BK6.out) hb⟩; have n1_ := Aside0.mk (below_step (by repeat (first | (with_reducible first | exact HB.out | apply below_alloc | apply pw_below_drewN | apply below_drew1 | refine below_set ?_ GE6.out) | exact HB.out)) hb); have n2_ := Aside0.mk hbox; have n3_ : Aside0 (gb6 < gb7) := ⟨by rw [hg]; exact blk_lt (o := .cells #[.int .i64 (wrap64 (Int.tdiv a0 2))] 3 (0, 0)) (by (with_reducible repeat (first | refine blk_drewN ?_ _ | refine blk_drew ?_ | refine blk_alloc ?_ _)); refine blk_put (cs := #[.int .i64 0]) ?_ 0 _ rfl; (with_reducible repeat (first | refine blk_drewN ?_ _ | refine blk_drew ?_ | refine blk_alloc ?_ _)); exact BK6.out)⟩; have n4_ : Aside0 (w.heap.size ≤ gb7) := ⟨Nat.le_trans GE6.out (Nat.le_of_lt n3_.out)⟩; clear HB BK6 hcz6_0 hfz6_0; have BK6 := n0_; have HB := n1_; have BK7 := n2_; have G67 := n3_; have GE7 := n4_; clear n0_ n1_ n2_ n3_ n4_; clear hb hbox hg))
      go_loopg [26] k (fun kq v26 w' => ∃ (x7_2 : List Int) (u_2 : Value) (x26_2 : Int), v26 = .int .i64 x26_2 ∧ Aside0 (impl_Decide.l0 kq l1 (wrap64 (Int.tdiv a0 2)) x7_2 x26_2 = some (r1, r2)) ∧ Aside0 (kq ≤ k) ∧ Aside0 (w'.cell? ⟨gb6, 0, none⟩ = some (.int .i64 (wrap64 (Int.tdiv a0 2)))) ∧ Aside0 (w'.heap[gb7]? = some (.cells #[u_2] 27 (0, 0))) ∧ Aside0 (Kd.R (Kd.int .i64) 3 w' w.heap.size (fun b => b ≠ gb6 ∧ b ≠ gb7) u_2 x7_2) ∧ Aside0 (Below w.heap.size w w'))
      case atStart => exact ⟨([] : List Int), (.slice none 0 0), (0), (by first | rfl | (simp; done) | (simp [*]; done)), H', ⟨Nat.le_refl _⟩, ⟨(blk_cell BK6.out 0).trans rfl⟩, ⟨BK7.out⟩, ⟨Kd.R_nil _ _ _ _ _⟩, ⟨by repeat (first | (with_reducible first | exact HB.out | apply below_alloc | apply pw_below_drewN | apply below_drew1) | exact HB.out)⟩⟩
      case round =>
        clear H'
        obtain ⟨x7_2, u_2, x26_2, rfl, HA, HK1, HG6, HG7, HO, HB⟩ := hrel
        cases gk with
        | zero => exact absurd HA.out (by simp [impl_Decide.l0])
        | succ k1 =>
          have H := HA.out
          clear HA
          simp only [impl_Decide.l0] at H
          have hx6 := HG6.out
          have hx7 := HG7.out
          clear HG6 HG7
          by_cases c17 : x26_2 < (l1.length : Int)
          · rw [if_pos c17] at H
            have c17b0 : decide (x26_2 < (l1.length : Int)) = true := decide_eq_true c17
            by_cases c18 : 0 ≤ x26_2
            · rw [if_pos c18] at H
              obtain ⟨t1, A110, H⟩ := Option.bind_eq_some_iff.mp H
              have A11 := Aside0.mk A110
              clear A110
              obtain ⟨ad199, e199, hx199_0, hx199_1⟩ := at_T61 HR1.out x26_2 c18 c17
              cases e199
              replace hx199_0 := (HB.out.cell (World.block_lt_of_cell? w _ hx199_0)).trans hx199_0
              replace hx199_1 := (HB.out.cell (World.block_lt_of_cell? w _ hx199_1)).trans hx199_1
              have p199 := eq_true c18
              have q199 := eq_true c17
              clear c17 c18
              by_cases c19 : t1 = true
              · subst c19
                rw [if_pos rfl] at H
                obtain ⟨t2, A120, H⟩ := Option.bind_eq_some_iff.mp H
                have A12 := Aside0.mk A120
                clear A120
                by_cases c20 : t2 = true
                · subst c20
                  rw [if_pos rfl] at H
                  obtain ⟨o1, A130, H⟩ := Option.bind_eq_some_iff.mp H
                  have A13 := Aside0.mk A130
                  clear A130
                  obtain ⟨o2, A140, H⟩ := Option.bind_eq_some_iff.mp H
                  have A14 := Aside0.mk A140
                  clear A140
                  have H' := Aside0.mk H
                  clear H
                  go_upto_region 9 with (first | ((with_reducible refine gate_dst (N := 10) rfl ?_); refine box_event ?hg (N := 10) ?hd (cs := #[.int .i64 0, .int .i64 0]) (t := 61) ?hr ?_; (case hd => rfl); (case hg => rfl); (case hr => first | (go_simp; done) | (go_simp; rfl)); intro gb200 hg w26 hbox hb; have n0_ := Aside0.mk (dec_box HO.out hb hg); have n1_ := Aside0.mk (below_step HB.out hb); have n2_ := Aside0.mk hbox; have n3_ := Aside0.mk (pw_cell_below hb hx6); have n4_ := Aside0.mk (blk_below hx7 hb); have n5_ : Aside0 (gb6 < gb200 ∧ gb7 < gb200 ∧ w.heap.size ≤ gb200) := ⟨by rw [hg]; exact ⟨World.block_lt_of_cell? _ _ hx6, blk_lt hx7, below_size HB.out⟩⟩; clear HO; clear HB; clear hx6; clear hx7; have HO := n0_; have HB := n1_; have BK200 := n2_; have HG6 := n3_; have HG7 := n4_; have GE200 := n5_; clear n0_ n1_ n2_ n3_ n4_ n5_; clear hb hbox hg; have hcz27_0 : w26.cell? ⟨gb200, 0, none⟩ = some (.int .i64 0) := (blk_cell BK200.out 0).trans rfl; have hcz27_1 : w26.cell? ⟨gb200, 1, none⟩ = some (.int .i64 0) := (blk_cell BK200.out 1).trans rfl; have hfz27_0 := blk_frozen BK200.out 0; have hfz27_1 := blk_frozen BK200.out 1))
                  obtain ⟨w27, hw27⟩ : ∃ w27, w27 = (w26.setCell ⟨gb200, 0, none⟩ (.int .i64 ((rd_T61 l1 x26_2).f0))).setCell ⟨gb200, 1, none⟩ (.int .i64 ((rd_T61 l1 x26_2).f1)) := ⟨_, rfl⟩
                  rw [← hw27]
                  have hx6 : w27.cell? ⟨gb6, 0, none⟩ = some (.int .i64 (wrap64 (Int.tdiv a0 2))) := by rw [hw27, cell_far (Nat.ne_of_lt GE200.out.1), cell_far (Nat.ne_of_lt GE200.out.1)]; exact HG6.out
                  have hx7 : w27.heap[gb7]? = some (.cells #[u_2] 27 (0, 0)) := by rw [hw27]; exact blk_far (blk_far HG7.out (Nat.ne_of_lt GE200.out.2.1) _) (Nat.ne_of_lt GE200.out.2.1) _
                  have hbk : w27.heap[gb200]? = some (.cells #[.int .i64 ((rd_T61 l1 x26_2).f0), .int .i64 ((rd_T61 l1 x26_2).f1)] 61 (0, 0)) := by rw [hw27]; exact blk_put (cs := #[.int .i64 ((rd_T61 l1 x26_2).f0), .int .i64 0]) (blk_put (cs := #[.int .i64 0, .int .i64 0]) BK200.out 0 _ rfl) 1 _ rfl
                  have hp0 : w27.cell? ⟨gb200, 0, none⟩ = some (.int .i64 ((rd_T61 l1 x26_2).f0)) := (blk_cell hbk 0).trans rfl
                  have hp1 : w27.cell? ⟨gb200, 1, none⟩ = some (.int .i64 ((rd_T61 l1 x26_2).f1)) := (blk_cell hbk 1).trans rfl
                  have n0_ : Aside0 (Kd.R (Kd.int .i64) 3 w27 w.heap.size (fun b => (b ≠ gb6 ∧ b ≠ gb7) ∧ b ≠ gb200) u_2 x7_2) := ⟨by rw [hw27]; exact Kd.R_far (Kd.R_far HO.out (fun b hb_ => hb_.2) _) (fun b hb_ => hb_.2) _⟩
                  have n1_ : Aside0 (Below w.heap.size w w27) := ⟨by rw [hw27]; exact (HB.out.setCell GE200.out.2.2 _).setCell GE200.out.2.2 _⟩
                  clear HO HB HG6 HG7 BK200 hbk hcz27_0 hcz27_1 hfz27_0 hfz27_1 hw27
                  have HO := n0_
                  have HB := n1_
                  clear n0_ n1_
                  go_wp2_with (first | (go_at_call 97; (with_reducible refine (impl_sample.calls ((rd_T61 l1 x26_2).f0) true _ A11.out).mono ?_); rintro e w28 ⟨rfl, hd⟩; have hb := dec_drawn hd; clear hd; have n0_ := Aside0.mk (Kd.R_below HO.out hb); have n1_ := Aside0.mk (below_step HB.out hb); have e6 := pw_cell_below hb hx6; have e7 := blk_below hx7 hb; have ep0 := pw_cell_below hb hp0; have ep1 := pw_cell_below hb hp1; clear HO HB hx6 hx7 hp0 hp1 hb; have HO := n0_; have HB := n1_; have hx6 := e6; have hx7 := e7; have hp0 := ep0; have hp1 := ep1; clear n0_ n1_ e6 e7 ep0 ep1) | (go_at_call 97; (with_reducible refine (impl_sample.calls ((rd_T61 l1 x26_2).f1) true _ A12.out).mono ?_); rintro e w28 ⟨rfl, hd⟩; have hb := dec_drawn hd; clear hd; have n0_ := Aside0.mk (Kd.R_below HO.out hb); have n1_ := Aside0.mk (below_step HB.out hb); have e6 := pw_cell_below hb hx6; have e7 := blk_below hx7 hb; have ep0 := pw_cell_below hb hp0; have ep1 := pw_cell_below hb hp1; clear HO HB hx6 hx7 hp0 hp1 hb; have HO := n0_; have HB := n1_; have hx6 := e6; have hx7 := e7; have hp0 := ep0; have hp1 := ep1; clear n0_ n1_ e6 e7 ep0 ep1) | (go_at_call 93; (with_reducible refine (impl_Decide.put_calls k1 (wrap64 (Int.tdiv a0 2)) ((rd_T61 l1 x26_2).f0) x7_2 o1 gb6 gb7 w.heap.size (fun b => (b ≠ gb6 ∧ b ≠ gb7) ∧ b ≠ gb200) u_2 w _ ?s6 ?s7 ?sn ?sb ?sf ?sB ?sw ?sr A13.out).mono ?_); (case s6 => exact hx6); (case s7 => exact hx7); (case sn => exact fun e_ => e_.1.2 rfl); (case sb => exact GE7.out); (case sf => exact fun b hb_ => dec_fresh hx6 hx7 hp0 hb_); (case sB => exact HB.out); (case sw => exact HB.out.size); (case sr => exact HO.out); rintro e w29 ⟨⟨v0_, rfl⟩, u_3, hc7, ho, hb, hz, hf⟩; have n0_ := Aside0.mk ho; have n1_ := Aside0.mk hb; have e6 := (cell_of_block' (a := ⟨gb6, 0, none⟩) (hf gb6 (World.block_lt_of_cell? _ _ hx6) (fun e_ => e_.1.1 rfl) (Nat.ne_of_lt G67.out))).trans hx6; have ep := hf gb200 (World.block_lt_of_cell? _ _ hp0) (fun e_ => e_.2 rfl) (Nat.ne_of_gt GE200.out.2.1); have ep0 := (cell_of_block' (a := ⟨gb200, 0, none⟩) ep).trans hp0; have ep1 := (cell_of_block' (a := ⟨gb200, 1, none⟩) ep).trans hp1; clear HO HB hx6 hx7 hp0 hp1 ep ho hb hz hf; have HO := n0_; have HB := n1_; have hx6 := e6; have hx7 := hc7; have hp0 := ep0; have hp1 := ep1; clear n0_ n1_ e6 hc7 ep0 ep1) | (go_at_call 93; (with_reducible refine (impl_Decide.put_calls k1 (wrap64 (Int.tdiv a0 2)) ((rd_T61 l1 x26_2).f1) o1 o2 gb6 gb7 w.heap.size (fun b => (b ≠ gb6 ∧ b ≠ gb7) ∧ b ≠ gb200) u_3 w _ ?s6 ?s7 ?sn ?sb ?sf ?sB ?sw ?sr A14.out).mono ?_); (case s6 => exact hx6); (case s7 => exact hx7); (case sn => exact fun e_ => e_.1.2 rfl); (case sb => exact GE7.out); (case sf => exact fun b hb_ => dec_fresh hx6 hx7 hp0 hb_); (case sB => exact HB.out); (case sw => exact HB.out.size); (case sr => exact HO.out); rintro e w30 ⟨⟨v0_, rfl⟩, u_4, hc7, ho, hb, hz, hf⟩; have n0_ := Aside0.mk ho; have n1_ := Aside0.mk hb; have e6 := (cell_of_block' (a := ⟨gb6, 0, none⟩) (hf gb6 (World.block_lt_of_cell? _ _ hx6) (fun e_ => e_.1.1 rfl) (Nat.ne_of_lt G67.out))).trans hx6; have ep := hf gb200 (World.block_lt_of_cell? _ _ hp0) (fun e_ => e_.2 rfl) (Nat.ne_of_gt GE200.out.2.1); have ep0 := (cell_of_block' (a := ⟨gb200, 0, none⟩) ep).trans hp0; have ep1 := (cell_of_block' (a := ⟨gb200, 1, none⟩) ep).trans hp1; clear HO HB hx6 hx7 hp0 hp1 ep ho hb hz hf; have HO := n0_; have HB := n1_; have hx6 := e6; have hx7 := hc7; have hp0 := ep0; have hp1 := ep1; clear n0_ n1_ e6 hc7 ep0 ep1))
                  go_roundg k1
                  case measure => have := HK1.out; omega
                  case rel => exact ⟨o2, u_4, (wrap64 (x26_2 + 1)), (by first | rfl | (simp; done) | (simp [*]; done)), H', ⟨by have := HK1.out; omega⟩, ⟨hx6⟩, ⟨hx7⟩, ⟨by (with_reducible repeat (first | apply Kd.R_alloc | apply Kd.R_drewN | apply Kd.R_drew)); exact Kd.R_mono HO.out (fun b hb_ => hb_.1)⟩, ⟨by repeat (first | (with_reducible first | apply pw_below_drewN | apply below_drew1) | exact HB.out)⟩⟩
                · replace c20 := Bool.eq_false_iff.mpr c20
                  subst c20
                  rw [if_neg (show ¬ (false = true) by decide)] at H
                  simp only [Option.some.injEq, Prod.mk.injEq] at H
                  obtain ⟨rfl, rfl⟩ := H
                  go_upto_region 9 with (first | ((with_reducible refine gate_dst (N := 10) rfl ?_); refine box_event ?hg (N := 10) ?hd (cs := #[.int .i64 0, .int .i64 0]) (t := 61) ?hr ?_; (case hd => rfl); (case hg => rfl); (case hr => first | (go_simp; done) | (go_simp; rfl)); intro gb200 hg w26 hbox hb; have n0_ := Aside0.mk (dec_box HO.out hb hg); have n1_ := Aside0.mk (below_step HB.out hb); have n2_ := Aside0.mk hbox; have n3_ := Aside0.mk (pw_cell_below hb hx6); have n4_ := Aside0.mk (blk_below hx7 hb); have n5_ : Aside0 (gb6 < gb200 ∧ gb7 < gb200 ∧ w.heap.size ≤ gb200) := ⟨by rw [hg]; exact ⟨World.block_lt_of_cell? _ _ hx6, blk_lt hx7, below_size HB.out⟩⟩; clear HO; clear HB; clear hx6; clear hx7; have HO := n0_; have HB := n1_; have BK200 := n2_; have HG6 := n3_; have HG7 := n4_; have GE200 := n5_; clear n0_ n1_ n2_ n3_ n4_ n5_; clear hb hbox hg; have hcz27_0 : w26.cell? ⟨gb200, 0, none⟩ = some (.int .i64 0) := (blk_cell BK200.out 0).trans rfl; have hcz27_1 : w26.cell? ⟨gb200, 1, none⟩ = some (.int .i64 0) := (blk_cell BK200.out 1).trans rfl; have hfz27_0 := blk_frozen BK200.out 0; have hfz27_1 := blk_frozen BK200.out 1))
                  obtain ⟨w27, hw27⟩ : ∃ w27, w27 = (w26.setCell ⟨gb200, 0, none⟩ (.int .i64 ((rd_T61 l1 x26_2).f0))).setCell ⟨gb200, 1, none⟩ (.int .i64 ((rd_T61 l1 x26_2).f1)) := ⟨_, rfl⟩
                  rw [← hw27]
                  have hx6 : w27.cell? ⟨gb6, 0, none⟩ = some (.int .i64 (wrap64 (Int.tdiv a0 2))) := by rw [hw27, cell_far (Nat.ne_of_lt GE200.out.1), cell_far (Nat.ne_of_lt GE200.out.1)]; exact HG6.out
                  have hx7 : w27.heap[gb7]? = some (.cells #[u_2] 27 (0, 0)) := by rw [hw27]; exact blk_far (blk_far HG7.out (Nat.ne_of_lt GE200.out.2.1) _) (Nat.ne_of_lt GE200.out.2.1) _
                  have hbk : w27.heap[gb200]? = some (.cells #[.int .i64 ((rd_T61 l1 x26_2).f0), .int .i64 ((rd_T61 l1 x26_2).f1)] 61 (0, 0)) := by rw [hw27]; exact blk_put (cs := #[.int .i64 ((rd_T61 l1 x26_2).f0), .int .i64 0]) (blk_put (cs := #[.int .i64 0, .int .i64 0]) BK200.out 0 _ rfl) 1 _ rfl
                  have hp0 : w27.cell? ⟨gb200, 0, none⟩ = some (.int .i64 ((rd_T61 l1 x26_2).f0)) := (blk_cell hbk 0).trans rfl
                  have hp1 : w27.cell? ⟨gb200, 1, none⟩ = some (.int .i64 ((rd_T61 l1 x26_2).f1)) := (blk_cell hbk 1).trans rfl
                  have n0_ : Aside0 (Kd.R (Kd.int .i64) 3 w27 w.heap.size (fun b => (b ≠ gb6 ∧ b ≠ gb7) ∧ b ≠ gb200) u_2 x7_2) := ⟨by rw [hw27]; exact Kd.R_far (Kd.R_far HO.out (fun b hb_ => hb_.2) _) (fun b hb_ => hb_.2) _⟩
                  have n1_ : Aside0 (Below w.heap.size w w27) := ⟨by rw [hw27]; exact (HB.out.setCell GE200.out.2.2 _).setCell GE200.out.2.2 _⟩
                  clear HO HB HG6 HG7 BK200 hbk hcz27_0 hcz27_1 hfz27_0 hfz27_1 hw27
                  have HO := n0_
                  have HB := n1_
                  clear n0_ n1_
                  go_wp2_with (first | (go_at_call 97; (with_reducible refine (impl_sample.calls ((rd_T61 l1 x26_2).f0) true _ A11.out).mono ?_); rintro e w28 ⟨rfl, hd⟩; have hb := dec_drawn hd; clear hd; have n0_ := Aside0.mk (Kd.R_below HO.out hb); have n1_ := Aside0.mk (below_step HB.out hb); have e6 := pw_cell_below hb hx6; have e7 := blk_below hx7 hb; have ep0 := pw_cell_below hb hp0; have ep1 := pw_cell_below hb hp1; clear HO HB hx6 hx7 hp0 hp1 hb; have HO := n0_; have HB := n1_; have hx6 := e6; have hx7 := e7; have hp0 := ep0; have hp1 := ep1; clear n0_ n1_ e6 e7 ep0 ep1) | (go_at_call 97; (with_reducible refine (impl_sample.calls ((rd_T61 l1 x26_2).f1) false _ A12.out).mono ?_); rintro e w28 ⟨rfl, hd⟩; have hb := dec_drawn hd; clear hd; have n0_ := Aside0.mk (Kd.R_below HO.out hb); have n1_ := Aside0.mk (below_step HB.out hb); have e6 := pw_cell_below hb hx6; have e7 := blk_below hx7 hb; have ep0 := pw_cell_below hb hp0; have ep1 := pw_cell_below hb hp1; clear HO HB hx6 hx7 hp0 hp1 hb; have HO := n0_; have HB := n1_; have hx6 := e6; have hx7 := e7; have hp0 := ep0; have hp1 := ep1; clear n0_ n1_ e6 e7 ep0 ep1))
                  go_ret2
                  exact ⟨_, by first | rfl | (simp [errW_none, errW_some] <;> rfl) | (simp [*, errW_none, errW_some] <;> rfl), by first | exact Kd.R_nil _ _ _ _ _ , by repeat (first | (with_reducible first | exact HB.out | apply below_alloc | apply pw_below_drewN | apply below_drew1) | exact HB.out)⟩
              · replace c19 := Bool.eq_false_iff.mpr c19
                subst c19
                rw [if_neg (show ¬ (false = true) by decide)] at H
                simp only [Option.some.injEq, Prod.mk.injEq] at H
                obtain ⟨rfl, rfl⟩ := H
                go_upto_region 9 with (first | ((with_reducible refine gate_dst (N := 10) rfl ?_); refine box_event ?hg (N := 10) ?hd (cs := #[.int .i64 0, .int .i64 0]) (t := 61) ?hr ?_; (case hd => rfl); (case hg => rfl); (case hr => first | (go_simp; done) | (go_simp; rfl)); intro gb200 hg w26 hbox hb; have n0_ := Aside0.mk (dec_box HO.out hb hg); have n1_ := Aside0.mk (below_step HB.out hb); have n2_ := Aside0.mk hbox; have n3_ := Aside0.mk (pw_cell_below hb hx6); have n4_ := Aside0.mk (blk_below hx7 hb); have n5_ : Aside0 (gb6 < gb200 ∧ gb7 < gb200 ∧ w.heap.size ≤ gb200) := ⟨by rw [hg]; exact ⟨World.block_lt_of_cell? _ _ hx6, blk_lt hx7, below_size HB.out⟩⟩; clear HO; clear HB; clear hx6; clear hx7; have HO := n0_; have HB := n1_; have BK200 := n2_; have HG6 := n3_; have HG7 := n4_; have GE200 := n5_; clear n0_ n1_ n2_ n3_ n4_ n5_; clear hb hbox hg; have hcz27_0 : w26.cell? ⟨gb200, 0, none⟩ = some (.int .i64 0) := (blk_cell BK200.out 0).trans rfl; have hcz27_1 : w26.cell? ⟨gb200, 1, none⟩ = some (.int .i64 0) := (blk_cell BK200.out 1).trans rfl; have hfz27_0 := blk_frozen BK200.out 0; have hfz27_1 := blk_frozen BK200.out 1))
                obtain ⟨w27, hw27⟩ : ∃ w27, w27 = (w26.setCell ⟨gb200, 0, none⟩ (.int .i64 ((rd_T61 l1 x26_2).f0))).setCell ⟨gb200, 1, none⟩ (.int .i64 ((rd_T61 l1 x26_2).f1)) := ⟨_, rfl⟩
                rw [← hw27]
                have hx6 : w27.cell? ⟨gb6, 0, none⟩ = some (.int .i64 (wrap64 (Int.tdiv a0 2))) := by rw [hw27, cell_far (Nat.ne_of_lt GE200.out.1), cell_far (Nat.ne_of_lt GE200.out.1)]; exact HG6.out
                have hx7 : w27.heap[gb7]? = some (.cells #[u_2] 27 (0, 0)) := by rw [hw27]; exact blk_far (blk_far HG7.out (Nat.ne_of_lt GE200.out.2.1) _) (Nat.ne_of_lt GE200.out.2.1) _
                have hbk : w27.heap[gb200]? = some (.cells #[.int .i64 ((rd_T61 l1 x26_2).f0), .int .i64 ((rd_T61 l1 x26_2).f1)] 61 (0, 0)) := by rw [hw27]; exact blk_put (cs := #[.int .i64 ((rd_T61 l1 x26_2).f0), .int .i64 0]) (blk_put (cs := #[.int .i64 0, .int .i64 0]) BK200.out 0 _ rfl) 1 _ rfl
                have hp0 : w27.cell? ⟨gb200, 0, none⟩ = some (.int .i64 ((rd_T61 l1 x26_2).f0)) := (blk_cell hbk 0).trans rfl
                have hp1 : w27.cell? ⟨gb200, 1, none⟩ = some (.int .i64 ((rd_T61 l1 x26_2).f1)) := (blk_cell hbk 1).trans rfl
                have n0_ : Aside0 (Kd.R (Kd.int .i64) 3 w27 w.heap.size (fun b => (b ≠ gb6 ∧ b ≠ gb7) ∧ b ≠ gb200) u_2 x7_2) := ⟨by rw [hw27]; exact Kd.R_far (Kd.R_far HO.out (fun b hb_ => hb_.2) _) (fun b hb_ => hb_.2) _⟩
                have n1_ : Aside0 (Below w.heap.size w w27) := ⟨by rw [hw27]; exact (HB.out.setCell GE200.out.2.2 _).setCell GE200.out.2.2 _⟩
                clear HO HB HG6 HG7 BK200 hbk hcz27_0 hcz27_1 hfz27_0 hfz27_1 hw27
                have HO := n0_
                have HB := n1_
                clear n0_ n1_
                go_wp2_with (first | (go_at_call 97; (with_reducible refine (impl_sample.calls ((rd_T61 l1 x26_2).f0) false _ A11.out).mono ?_); rintro e w28 ⟨rfl, hd⟩; have hb := dec_drawn hd; clear hd; have n0_ := Aside0.mk (Kd.R_below HO.out hb); have n1_ := Aside0.mk (below_step HB.out hb); have e6 := pw_cell_below hb hx6; have e7 := blk_below hx7 hb; have ep0 := pw_cell_below hb hp0; have ep1 := pw_cell_below hb hp1; clear HO HB hx6 hx7 hp0 hp1 hb; have HO := n0_; have HB := n1_; have hx6 := e6; have hx7 := e7; have hp0 := ep0; have hp1 := ep1; clear n0_ n1_ e6 e7 ep0 ep1))
                go_ret2
                exact ⟨_, by first | rfl | (simp [errW_none, errW_some] <;> rfl) | (simp [*, errW_none, errW_some] <;> rfl), by first | exact Kd.R_nil _ _ _ _ _ , by repeat (first | (with_reducible first | exact HB.out | apply below_alloc | apply pw_below_drewN | apply below_drew1) | exact HB.out)⟩
            · rw [if_neg c18] at H
              exact absurd H (by simp)
          · rw [if_neg c17] at H
            have c17b0 : decide (x26_2 < (l1.length : Int)) = false := decide_eq_false c17
            clear c17
            simp only [Option.some.injEq, Prod.mk.injEq] at H
            obtain ⟨rfl, rfl⟩ := H
            have hx7c := (blk_cell hx7 0).trans rfl
            go_wp2
            go_ret2
            exact ⟨_, by first | rfl | (simp [errW_none, errW_some] <;> rfl) | (simp [*, errW_none, errW_some] <;> rfl), by (with_reducible repeat (first | apply Kd.R_alloc | apply Kd.R_drewN | apply Kd.R_drew)); exact Kd.R_mono HO.out (fun _ _ => trivial), by repeat (first | (with_reducible first | apply pw_below_drewN | apply below_drew1) | exact HB.out)⟩
  · replace c9 := Bool.eq_false_iff.mpr c9
    subst c9
    rw [if_neg (show ¬ (false = true) by decide)] at H
    simp only [Option.some.injEq, Prod.mk.injEq] at H
    obtain ⟨rfl, rfl⟩ := H
    go_enter Try.func40, Try.ntmps40
    go_wp2_with (first | (go_at_call 80; (with_reducible refine (impl_isWidth.calls a0 false _ A8.out).mono ?_); rintro e w' ⟨rfl, ⟨nd2, rfl⟩⟩))
    go_ret2
    exact ⟨_, by first | rfl | (simp [errW_none, errW_some] <;> rfl) | (simp [*, errW_none, errW_some] <;> rfl), by first | exact Kd.R_nil _ _ _ _ _ , by repeat (first | (with_reducible first | exact HB.out | apply below_alloc | apply pw_below_drewN | apply below_drew1) | exact HB.out)⟩


/-- A state of type 124 at block g of W; what its slices lead to came in by w0. -/
def IsS124 (w0 W : World) (g : Nat) (f0 : List Int) (f1 : Int) (f2 : Int) : Prop := ∃ A0 c0, W.heap[g]? = some (.cells #[.slice A0 f0.length c0, .int .i64 f1, .int .i64 f2] 124 (0, 0)) ∧ w0.heap.size ≤ g ∧ Kd.C (Kd.int .u8) w0 A0 f0.length f0
theorem IsS124.grown {w0 W : World} {g : Nat} {f0 : List Int} {f1 : Int} {f2 : Int} {W1 : World} {row : Option Nat} (h : IsS124 w0 W g f0 f1 f2) (hw : W.grownBy W1 row) (hne : some g ≠ row) : IsS124 w0 W1 g f0 f1 f2 := by
  obtain ⟨A0, c0, hb, hg, hr0⟩ := h
  exact ⟨A0, c0, blk_grown hb hw hne, hg, hr0⟩
theorem IsS124.own_neN {w0 W : World} {g : Nat} {f0 : List Int} {f1 : Int} {f2 : Int} {α : Type} {d : Kd α} {e : Nat} {base : Nat} {ok : Nat → Prop} {v : Value} {xs : List α} (h : IsS124 w0 W g f0 f1 f2) (ho : Kd.N d e W base ok v xs) (ht : e ≠ 124) : some g ≠ v.ownBlock := by
  obtain ⟨A0, c0, hb, hg, hr0⟩ := h
  exact Kd.N_ne ho hb ht
theorem IsS124.fresh {w0 W : World} {g : Nat} {f0 : List Int} {f1 : Int} {f2 : Int} (h : IsS124 w0 W g f0 f1 f2) : ∀ k, W.heap.size ≤ k → k ≠ g := by
  obtain ⟨A0, c0, hb, hg, hr0⟩ := h
  exact Kd.freshB hb
theorem IsS124.kept {w0 W : World} {g : Nat} {f0 : List Int} {f1 : Int} {f2 : Int} {W1 : World} {S : Nat → Prop} (h : IsS124 w0 W g f0 f1 f2) (hk : Kept W W1 S) (hne : ¬ S g) : IsS124 w0 W1 g f0 f1 f2 := by
  obtain ⟨A0, c0, hb, hg, hr0⟩ := h
  exact ⟨A0, c0, blk_kept hb hk hne, hg, hr0⟩
theorem IsS124.below {w0 W : World} {g : Nat} {f0 : List Int} {f1 : Int} {f2 : Int} {W1 : World} (h : IsS124 w0 W g f0 f1 f2) (hw : Below W.heap.size W W1) : IsS124 w0 W1 g f0 f1 f2 := h.grown (grown_of_below hw none) (by simp)
theorem IsS124.alloc {w0 W : World} {g : Nat} {f0 : List Int} {f1 : Int} {f2 : Int} (h : IsS124 w0 W g f0 f1 f2) (o : Obj) : IsS124 w0 (W.alloc o) g f0 f1 f2 := h.below (below_alloc (Below.refl _ _) o)
theorem IsS124.drewN {w0 W : World} {g : Nat} {f0 : List Int} {f1 : Int} {f2 : Int} (h : IsS124 w0 W g f0 f1 f2) (m : Nat) : IsS124 w0 (W.drewN m) g f0 f1 f2 := h
theorem IsS124.drew {w0 W : World} {g : Nat} {f0 : List Int} {f1 : Int} {f2 : Int} (h : IsS124 w0 W g f0 f1 f2) : IsS124 w0 W.drew g f0 f1 f2 := h
theorem IsS124.at_ {w0 W : World} {g : Nat} {f0 : List Int} {f1 : Int} {f2 : Int} {w' : World} {m : Nat} (hq : W.drewN m = w') (h : IsS124 w0 W g f0 f1 f2) : IsS124 w0 w' g f0 f1 f2 := by subst hq; exact IsS124.drewN h m
theorem IsS124.apart {w0 W : World} {g : Nat} {f0 : List Int} {f1 : Int} {f2 : Int} {α : Type} {d : Kd α} {e : Nat} {base : Nat} {ok : Nat → Prop} {v : Value} {xs : List α} (h : IsS124 w0 W g f0 f1 f2) (ho : d.R e W base ok v xs) (ht : ∀ q, q ∈ e :: d.E → q ≠ 124) : d.R e W base (fun k => ok k ∧ k ≠ g) v xs := by
  obtain ⟨A0, c0, hb, hg, hr0⟩ := h
  exact Kd.R_types ho hb ht
theorem IsS124.own_ne {w0 W : World} {g : Nat} {f0 : List Int} {f1 : Int} {f2 : Int} {α : Type} {d : Kd α} {e : Nat} {base : Nat} {ok : Nat → Prop} {v : Value} {xs : List α} (h : IsS124 w0 W g f0 f1 f2) (ho : d.R e W base ok v xs) (ht : e ≠ 124) : some g ≠ v.ownBlock := by
  obtain ⟨A0, c0, hb, hg, hr0⟩ := h
  exact Kd.R_ne ho hb ht
theorem IsS124.apartQ {w0 W : World} {g : Nat} {f0 : List Int} {f1 : Int} {f2 : Int} {α : Type} {d : Kd α} {e : Nat} {base : Nat} {ok : Nat → Prop} {v : Value} {xs : List α} (h : IsS124 w0 W g f0 f1 f2) (ho : d.Q e W base ok v xs) (ht : ∀ q, q ∈ e :: d.E → q ≠ 124) : d.Q e W base (fun k => ok k ∧ k ≠ g) v xs := by
  obtain ⟨A0, c0, hb, hg, hr0⟩ := h
  exact Kd.Q_types ho hb ht
theorem IsS124.own_neQ {w0 W : World} {g : Nat} {f0 : List Int} {f1 : Int} {f2 : Int} {α : Type} {d : Kd α} {e : Nat} {base : Nat} {ok : Nat → Prop} {v : Value} {xs : List α} (h : IsS124 w0 W g f0 f1 f2) (ho : d.Q e W base ok v xs) (ht : e ≠ 124) : some g ≠ v.ownBlock := by
  obtain ⟨A0, c0, hb, hg, hr0⟩ := h
  exact Kd.Q_ne ho hb ht
theorem IsS124.apartS {w0 W : World} {g : Nat} {f0 : List Int} {f1 : Int} {f2 : Int} {α : Type} {d : Kd α} {e : Nat} {base : Nat} {ok : Nat → Prop} {v : Value} {xs : List α} (h : IsS124 w0 W g f0 f1 f2) (ho : d.S e W base ok v xs) (ht : ∀ q, q ∈ e :: d.E → q ≠ 124) : d.S e W base (fun k => ok k ∧ k ≠ g) v xs := by
  obtain ⟨A0, c0, hb, hg, hr0⟩ := h
  exact Kd.S_types ho hb ht
theorem IsS124.own_neS {w0 W : World} {g : Nat} {f0 : List Int} {f1 : Int} {f2 : Int} {α : Type} {d : Kd α} {e : Nat} {base : Nat} {ok : Nat → Prop} {v : Value} {xs : List α} (h : IsS124 w0 W g f0 f1 f2) (ho : d.S e W base ok v xs) (ht : e ≠ 124) : some g ≠ v.ownBlock := by
  obtain ⟨A0, c0, hb, hg, hr0⟩ := h
  exact Kd.S_ne ho hb ht
theorem IsS124.lt {w0 W : World} {g : Nat} {f0 : List Int} {f1 : Int} {f2 : Int} (h : IsS124 w0 W g f0 f1 f2) : g < W.heap.size := by
  obtain ⟨A0, c0, hb, hg, hr0⟩ := h
  exact blk_lt hb
theorem IsS124.ge {w0 W : World} {g : Nat} {f0 : List Int} {f1 : Int} {f2 : Int} (h : IsS124 w0 W g f0 f1 f2) : w0.heap.size ≤ g := by
  obtain ⟨A0, c0, hb, hg, hr0⟩ := h
  exact hg
theorem IsS124.ne_blk {w0 W : World} {g : Nat} {f0 : List Int} {f1 : Int} {f2 : Int} {a : Nat} {cs : Array Value} {t : TypeId} {fr : Nat × Nat} (h : IsS124 w0 W g f0 f1 f2) (hb2 : W.heap[a]? = some (.cells cs t fr)) (ht : t ≠ 124) : g ≠ a := by
  obtain ⟨A0, c0, hb, hg, hr0⟩ := h
  rintro rfl
  rw [hb] at hb2
  injection hb2 with hb2
  injection hb2 with _ ht2
  exact ht ht2.symm
theorem IsS124.far {w0 W : World} {g : Nat} {f0 : List Int} {f1 : Int} {f2 : Int} {p : Addr} (h : IsS124 w0 W g f0 f1 f2) (hne : g ≠ p.block) (u : Value) : IsS124 w0 (W.setCell p u) g f0 f1 f2 := by
  obtain ⟨A0, c0, hb, hg, hr0⟩ := h
  exact ⟨A0, c0, blk_far hb hne u, hg, hr0⟩
theorem cellS124_0 {W : World} {g : Nat} {A0 : Option Addr} {c0 : Nat} {f0 : List Int} {f1 : Int} {f2 : Int} (h : W.heap[g]? = some (.cells #[.slice A0 f0.length c0, .int .i64 f1, .int .i64 f2] 124 (0, 0))) : W.cell? ⟨g, 0, none⟩ = some (.slice A0 f0.length c0) := (blk_cell h 0).trans rfl
theorem cellS124_1 {W : World} {g : Nat} {A0 : Option Addr} {c0 : Nat} {f0 : List Int} {f1 : Int} {f2 : Int} (h : W.heap[g]? = some (.cells #[.slice A0 f0.length c0, .int .i64 f1, .int .i64 f2] 124 (0, 0))) : W.cell? ⟨g, 1, none⟩ = some (.int .i64 f1) := (blk_cell h 1).trans rfl
theorem IsS124.set_1 {w0 W : World} {g : Nat} {f0 : List Int} {f1 : Int} {f2 : Int} (h : IsS124 w0 W g f0 f1 f2) (x : Int) : IsS124 w0 (W.setCell ⟨g, 1, none⟩ (.int .i64 x)) g f0 x f2 := by
  obtain ⟨A0, c0, hb, hg, hr0⟩ := h
  exact ⟨A0, c0, by simpa using blk_set hb 1 (.int .i64 x), hg, hr0⟩
theorem cellS124_2 {W : World} {g : Nat} {A0 : Option Addr} {c0 : Nat} {f0 : List Int} {f1 : Int} {f2 : Int} (h : W.heap[g]? = some (.cells #[.slice A0 f0.length c0, .int .i64 f1, .int .i64 f2] 124 (0, 0))) : W.cell? ⟨g, 2, none⟩ = some (.int .i64 f2) := (blk_cell h 2).trans rfl
theorem IsS124.set_2 {w0 W : World} {g : Nat} {f0 : List Int} {f1 : Int} {f2 : Int} (h : IsS124 w0 W g f0 f1 f2) (x : Int) : IsS124 w0 (W.setCell ⟨g, 2, none⟩ (.int .i64 x)) g f0 f1 x := by
  obtain ⟨A0, c0, hb, hg, hr0⟩ := h
  exact ⟨A0, c0, by simpa using blk_set hb 2 (.int .i64 x), hg, hr0⟩
theorem IsS124.new (w0 W : World) (A0 : Option Addr) (c0 : Nat) (f0 : List Int) (f1 : Int) (f2 : Int) (hB : Below w0.heap.size w0 W) (hr0 : Kd.C (Kd.int .u8) w0 A0 f0.length f0) : IsS124 w0 (W.alloc (.cells #[.slice A0 f0.length c0, .int .i64 f1, .int .i64 f2] 124)) W.heap.size f0 f1 f2 := ⟨A0, c0, by simpa using heap_alloc_new W _, hB.size, hr0⟩

/-! ### spec_l1New: function 70 -/
def spec_l1New.l0 : Nat → List Int → Int → Int → Option (List Int × Int × Int)
  | 0, _, _, _ => none
  | k + 1, x0, x3, x4 => if x4 < (x0.length : Int) then (if x4 < 4000 then (if 0 ≤ x4 then (spec_l1New.l0 k x0 (Go.bits .and .i64 (wrap64 ((wrap64 ((wrap64 (x3 * 131)) + (wrap64 (rd x0 x4)))) + 7)) 1073741823) (wrap64 (x4 + 1))) else (none)) else (some (x0, 0, x3))) else (some (x0, 0, x3))
def spec_l1New.f (k : Nat) (l0 : List Int) : Option (List Int × Int × Int) := spec_l1New.l0 k l0 (wrap64 (71933 + (l0.length : Int))) 0
theorem spec_l1New.mono_l : ∀ k, (∀ y0 y1 y2, LeO (spec_l1New.l0 k y0 y1 y2) (spec_l1New.l0 (k + 1) y0 y1 y2))
  | 0 => fun _ _ _ r h => by simp [spec_l1New.l0] at h
  | k + 1 => by
    have ih0 := spec_l1New.mono_l k
    · intro y0 y1 y2
      unfold spec_l1New.l0
      repeat' first
      | (with_reducible exact ih0 _ _ _)
      | (with_reducible exact LeO.refl _)
      | (with_reducible exact LeO.none _)
      | (with_reducible refine LeO.ite ?_ ?_)
      | (with_reducible refine LeO.bind ?_ (fun _ => ?_))
      | exact ih0 _ _ _
      | exact LeO.none _
      | refine LeO.ite ?_ ?_
      | refine LeO.bind ?_ (fun _ => ?_)
theorem spec_l1New.mono : ∀ a0 k, LeO (spec_l1New.f k a0) (spec_l1New.f (k + 1) a0) := by
  intro a0 k
  have ih0 := spec_l1New.mono_l k
  unfold spec_l1New.f
  repeat' first
      | (with_reducible exact ih0 _ _ _)
      | (with_reducible exact LeO.refl _)
      | (with_reducible exact LeO.none _)
      | (with_reducible refine LeO.ite ?_ ?_)
      | (with_reducible refine LeO.bind ?_ (fun _ => ?_))
      | exact ih0 _ _ _
      | exact LeO.none _
      | refine LeO.ite ?_ ?_
      | refine LeO.bind ?_ (fun _ => ?_)
set_option maxHeartbeats 8000000 in
set_option maxRecDepth 100000 in
theorem spec_l1New.calls (k : Nat) (A0 : Option Addr) (c0 : Nat) (l0 : List Int) (r1 : List Int) (r2 : Int) (r3 : Int) (w0 w : World) (hB : Below w0.heap.size w0 w) (hr0 : Kd.C (Kd.int .u8) w0 A0 l0.length l0) (hc0 : l0.length ≤ c0) (h : spec_l1New.f k l0 = some (r1, r2, r3)) :
    Calls Try.prog 70 #[.slice A0 l0.length c0] w fun e w' => ∃ g_ : Nat, e = .returned (.pointer (some ⟨g_, 0, none⟩)) ∧ IsS124 w0 w' g_ r1 r2 r3 ∧ Below w0.heap.size w0 w' ∧ Below w.heap.size w w' := by
  have hu124 := Try.underlying124
  have HR0 := Aside0.mk hr0
  have HC0 := Aside0.mk hc0
  clear hr0 hc0
  have HBW := Aside0.mk (Below.refl w.heap.size w)
  have HW0 := Aside0.mk hB.size
  have HB := Aside0.mk hB
  clear hB
  have H : (spec_l1New.l0 k l0 (wrap64 (71933 + (l0.length : Int))) 0) = some (r1, r2, r3) := h
  clear h
  have H' := Aside0.mk H
  clear H
  go_enter Try.func70, Try.ntmps70
  go_wp2
  go_loopg [3, 4] k (fun kq v3 v4 w' => ∃ (x3_1 : Int) (x4_1 : Int), v3 = .int .i64 x3_1 ∧ v4 = .int .i64 x4_1 ∧ Aside0 (spec_l1New.l0 kq l0 x3_1 x4_1 = some (r1, r2, r3)) ∧ Aside0 (kq ≤ k) ∧ Aside0 (Below w0.heap.size w0 w') ∧ Aside0 (Below w.heap.size w w'))
  case atStart => exact ⟨(wrap64 (71933 + (l0.length : Int))), (0), (by first | rfl | (simp; done) | (simp [*]; done)), (by first | rfl | (simp; done) | (simp [*]; done)), H', ⟨Nat.le_refl _⟩, ⟨by repeat (first | (with_reducible first | exact HB.out | apply below_alloc | apply pw_below_drewN | apply below_drew1) | exact HB.out)⟩, ⟨by repeat (first | (with_reducible first | exact HBW.out | apply below_alloc | apply pw_below_drewN | apply below_drew1) | exact HBW.out)⟩⟩
  case round =>
    clear H'
    obtain ⟨x3_1, x4_1, rfl, rfl, HA, HK1, HB, HBW⟩ := hrel
    cases gk with
    | zero => exact absurd HA.out (by simp [spec_l1New.l0])
    | succ k1 =>
      have H := HA.out
      clear HA
      simp only [spec_l1New.l0] at H
      by_cases c2 : x4_1 < (l0.length : Int)
      · rw [if_pos c2] at H
        have c2b0 : decide (x4_1 < (l0.length : Int)) = true := decide_eq_true c2
        clear c2
        by_cases c3 : x4_1 < 4000
        · rw [if_pos c3] at H
          have c3b0 : decide (x4_1 < 4000) = true := decide_eq_true c3
          clear c3
          by_cases c4 : 0 ≤ x4_1
          · rw [if_pos c4] at H
            have c4b0 : decide (0 ≤ x4_1) = true := decide_eq_true c4
            clear c4
            have H' := Aside0.mk H
            clear H
            have p138 : 0 ≤ (x4_1 : Int) := of_decide_eq_true (by first | (with_reducible assumption) | assumption)
            have q138 : x4_1 < (l0.length : Int) := of_decide_eq_true (by first | (with_reducible assumption) | assumption)
            obtain ⟨ad138, e138, hx138_0⟩ := Kd.at_int HR0.out x4_1 p138 q138
            cases e138
            replace hx138_0 := pw_cell_below HB.out hx138_0
            replace p138 := eq_true p138
            replace q138 := eq_true q138
            go_wp2
            go_roundg k1
            case measure => have := HK1.out; omega
            case rel => exact ⟨(Go.bits .and .i64 (wrap64 ((wrap64 ((wrap64 (x3_1 * 131)) + (wrap64 (rd l0 x4_1)))) + 7)) 1073741823), (wrap64 (x4_1 + 1)), (by first | rfl | (simp; done) | (simp [*]; done)), (by first | rfl | (simp; done) | (simp [*]; done)), H', ⟨by have := HK1.out; omega⟩, ⟨by repeat (first | (with_reducible first | exact HB.out | apply below_alloc | apply pw_below_drewN | apply below_drew1) | exact HB.out)⟩, ⟨by repeat (first | (with_reducible first | exact HBW.out | apply below_alloc | apply pw_below_drewN | apply below_drew1) | exact HBW.out)⟩⟩
          · rw [if_neg c4] at H
            exact absurd H (by simp)
        · rw [if_neg c3] at H
          have c3b0 : decide (x4_1 < 4000) = false := decide_eq_false c3
          clear c3
          simp only [Option.some.injEq, Prod.mk.injEq] at H
          obtain ⟨rfl, rfl, rfl⟩ := H
          go_wp2
          go_ret
          exact ⟨_, rfl, IsS124.new w0 _ A0 c0 l0 0 x3_1 HB.out HR0.out, below_alloc HB.out _, below_alloc HBW.out _⟩
      · rw [if_neg c2] at H
        have c2b0 : decide (x4_1 < (l0.length : Int)) = false := decide_eq_false c2
        clear c2
        simp only [Option.some.injEq, Prod.mk.injEq] at H
        obtain ⟨rfl, rfl, rfl⟩ := H
        go_wp2
        go_ret
        exact ⟨_, rfl, IsS124.new w0 _ A0 c0 l0 0 x3_1 HB.out HR0.out, below_alloc HB.out _, below_alloc HBW.out _⟩

/-! ### spec_l1Byte: function 122 -/
def spec_l1Byte.f (s0_0 : List Int) (s0_1 : Int) (s0_2 : Int) : Option (Int × Int × Int) := if s0_1 < (s0_0.length : Int) then (if 0 ≤ s0_1 then (some (Go.bits .and .i64 (wrap64 ((Go.bits .and .i64 (Go.bits .xor .i64 ((wrap64 ((wrap64 (s0_2 * 6364136223846793005)) + 1442695040888963407)) / 8589934592) ((wrap64 ((wrap64 (s0_2 * 6364136223846793005)) + 1442695040888963407)) / 35184372088832)) 255) + (wrap64 (rd s0_0 s0_1)))) 255, wrap64 (s0_1 + 1), wrap64 ((wrap64 (s0_2 * 6364136223846793005)) + 1442695040888963407))) else (none)) else (some (Go.bits .and .i64 (Go.bits .xor .i64 ((wrap64 ((wrap64 (s0_2 * 6364136223846793005)) + 1442695040888963407)) / 8589934592) ((wrap64 ((wrap64 (s0_2 * 6364136223846793005)) + 1442695040888963407)) / 35184372088832)) 255, s0_1, wrap64 ((wrap64 (s0_2 * 6364136223846793005)) + 1442695040888963407)))
set_option maxHeartbeats 8000000 in
set_option maxRecDepth 100000 in
theorem spec_l1Byte.calls (g : Nat) (s0_0 : List Int) (s0_1 : Int) (s0_2 : Int) (r1 : Int) (r2 : Int) (r3 : Int) (w0 w : World) (hI : IsS124 w0 w g s0_0 s0_1 s0_2) (hB : Below w0.heap.size w0 w) (h : spec_l1Byte.f s0_0 s0_1 s0_2 = some (r1, r2, r3)) :
    Calls Try.prog 122 #[.pointer (some ⟨g, 0, none⟩)] w fun e w' => e = .returned (.int .i64 r1) ∧ IsS124 w0 w' g s0_0 r2 r3 ∧ Below w0.heap.size w0 w' ∧ KeepBut w w' g none := by
  have HI0 := Aside0.mk hI
  have HK := Aside0.mk (KeepBut.refl w g none)
  have HL := Aside0.mk hB.size
  clear hI
  have HW0 := Aside0.mk hB.size
  have HB := Aside0.mk hB
  clear hB
  have H : (if s0_1 < (s0_0.length : Int) then (if 0 ≤ s0_1 then (some (Go.bits .and .i64 (wrap64 ((Go.bits .and .i64 (Go.bits .xor .i64 ((wrap64 ((wrap64 (s0_2 * 6364136223846793005)) + 1442695040888963407)) / 8589934592) ((wrap64 ((wrap64 (s0_2 * 6364136223846793005)) + 1442695040888963407)) / 35184372088832)) 255) + (wrap64 (rd s0_0 s0_1)))) 255, wrap64 (s0_1 + 1), wrap64 ((wrap64 (s0_2 * 6364136223846793005)) + 1442695040888963407))) else (none)) else (some (Go.bits .and .i64 (Go.bits .xor .i64 ((wrap64 ((wrap64 (s0_2 * 6364136223846793005)) + 1442695040888963407)) / 8589934592) ((wrap64 ((wrap64 (s0_2 * 6364136223846793005)) + 1442695040888963407)) / 35184372088832)) 255, s0_1, wrap64 ((wrap64 (s0_2 * 6364136223846793005)) + 1442695040888963407)))) = some (r1, r2, r3) := h
  clear h
  by_cases c2 : s0_1 < (s0_0.length : Int)
  · rw [if_pos c2] at H
    have c2b0 : decide (s0_1 < (s0_0.length : Int)) = true := decide_eq_true c2
    clear c2
    by_cases c3 : 0 ≤ s0_1
    · rw [if_pos c3] at H
      have c3b0 : decide (0 ≤ s0_1) = true := decide_eq_true c3
      clear c3
      simp only [Option.some.injEq, Prod.mk.injEq] at H
      obtain ⟨rfl, rfl, rfl⟩ := H
      obtain ⟨ASz4_0, cSz4_0, HGz4, hgz4, HSz4_0⟩ := HI0.out
      have hcz4_0 := cellS124_0 HGz4
      have hcz4_1 := cellS124_1 HGz4
      have hcz4_2 := cellS124_2 HGz4
      have hfz4_1 := blk_frozen HGz4 1
      have hfz4_2 := blk_frozen HGz4 2
      clear HGz4 hgz4
      have p141 : 0 ≤ (s0_1 : Int) := of_decide_eq_true (by first | (with_reducible assumption) | assumption)
      have q141 : s0_1 < (s0_0.length : Int) := of_decide_eq_true (by first | (with_reducible assumption) | assumption)
      obtain ⟨ad141, e141, hx141_0⟩ := Kd.at_int HSz4_0 s0_1 p141 q141
      cases e141
      have hn141_0 : ad141.block ≠ g := Nat.ne_of_lt (Nat.lt_of_lt_of_le (by have := World.block_lt_of_cell? _ _ hx141_0; first | rwa [add_block] at this | exact this) (IsS124.ge HI0.out))
      replace hx141_0 := pw_cell_below HB.out hx141_0
      replace hx141_0 := (cell_far (p := ⟨g, 2, none⟩) (by first | (rw [add_block]; exact hn141_0) | (show (Addr.add _ _).block ≠ _; rw [add_block]; exact hn141_0) | exact hn141_0) (.int .i64 (wrap64 ((wrap64 (s0_2 * 6364136223846793005)) + 1442695040888963407)))).trans hx141_0
      (try have hy141_0 := fun (n_ : Nat) => (show (((w.drewN n_).setCell ⟨g, 2, none⟩ (.int .i64 (wrap64 ((wrap64 (s0_2 * 6364136223846793005)) + 1442695040888963407))))).cell? _ = some _ from hx141_0))
      clear hn141_0
      replace p141 := eq_true p141
      replace q141 := eq_true q141
      go_enter Try.func122, Try.ntmps122
      go_wp2
      repeat (go_quiet (fail); try go_wp2)
      go_ret
      exact ⟨by first | rfl | (simp [errW_none, errW_some] <;> rfl) | (simp [*, errW_none, errW_some] <;> rfl), by repeat (first | (with_reducible first | exact HI0.out | apply IsS124.alloc | apply IsS124.drewN | apply IsS124.drew | apply IsS124.set_1 | apply IsS124.set_2) | exact HI0.out), by repeat (first | (with_reducible first | exact HB.out | apply below_alloc | apply pw_below_drewN | apply below_drew1 | refine below_set ?_ (IsS124.ge HI0.out)) | exact HB.out), by repeat (first | (with_reducible first | exact HK.out | apply KeepBut.set_ | apply keep_drewN | apply keep_drew | apply keep_alloc) | exact HK.out)⟩
    · rw [if_neg c3] at H
      exact absurd H (by simp)
  · rw [if_neg c2] at H
    have c2b0 : decide (s0_1 < (s0_0.length : Int)) = false := decide_eq_false c2
    clear c2
    simp only [Option.some.injEq, Prod.mk.injEq] at H
    obtain ⟨rfl, rfl, rfl⟩ := H
    obtain ⟨ASz5_0, cSz5_0, HGz5, hgz5, HSz5_0⟩ := HI0.out
    have hcz5_0 := cellS124_0 HGz5
    have hcz5_1 := cellS124_1 HGz5
    have hcz5_2 := cellS124_2 HGz5
    have hfz5_1 := blk_frozen HGz5 1
    have hfz5_2 := blk_frozen HGz5 2
    clear HGz5 hgz5
    go_enter Try.func122, Try.ntmps122
    go_wp2
    repeat (go_quiet (fail); try go_wp2)
    go_ret
    exact ⟨by first | rfl | (simp [errW_none, errW_some] <;> rfl) | (simp [*, errW_none, errW_some] <;> rfl), by repeat (first | (with_reducible first | exact HI0.out | apply IsS124.alloc | apply IsS124.drewN | apply IsS124.drew | apply IsS124.set_1 | apply IsS124.set_2) | exact HI0.out), by repeat (first | (with_reducible first | exact HB.out | apply below_alloc | apply pw_below_drewN | apply below_drew1 | refine below_set ?_ (IsS124.ge HI0.out)) | exact HB.out), by repeat (first | (with_reducible first | exact HK.out | apply KeepBut.set_ | apply keep_drewN | apply keep_drew | apply keep_alloc) | exact HK.out)⟩

/-! ### spec_l1Below: function 72 -/
def spec_l1Below.f (s0_0 : List Int) (s0_1 : Int) (s0_2 : Int) (a1 : Int) : Option (Int × Int × Int) := if a1 ≤ 0 then (some (0, s0_1, s0_2)) else (if a1 ≤ 256 then ((spec_l1Byte.f s0_0 s0_1 s0_2).bind fun bt142 => (if a1 = 0 then (none) else (some (Int.tmod bt142.1 a1, bt142.2.1, bt142.2.2)))) else ((spec_l1Byte.f s0_0 s0_1 s0_2).bind fun bt145 => ((spec_l1Byte.f s0_0 bt145.2.1 bt145.2.2).bind fun bt148 => ((spec_l1Byte.f s0_0 bt148.2.1 bt148.2.2).bind fun bt151 => ((spec_l1Byte.f s0_0 bt151.2.1 bt151.2.2).bind fun bt154 => (if a1 = 0 then (none) else (some (Int.tmod (wrap64 ((wrap64 ((wrap64 ((wrap64 (bt145.1 * 16777216)) + (wrap64 (bt148.1 * 65536)))) + (wrap64 (bt151.1 * 256)))) + bt154.1)) a1, bt154.2.1, bt154.2.2))))))))
set_option maxHeartbeats 8000000 in
set_option maxRecDepth 100000 in
theorem spec_l1Below.calls (g : Nat) (s0_0 : List Int) (s0_1 : Int) (s0_2 : Int) (a1 : Int) (r1 : Int) (r2 : Int) (r3 : Int) (w0 w : World) (hI : IsS124 w0 w g s0_0 s0_1 s0_2) (hB : Below w0.heap.size w0 w) (h : spec_l1Below.f s0_0 s0_1 s0_2 a1 = some (r1, r2, r3)) :
    Calls Try.prog 72 #[.pointer (some ⟨g, 0, none⟩), .int .i64 a1] w fun e w' => e = .returned (.int .i64 r1) ∧ IsS124 w0 w' g s0_0 r2 r3 ∧ Below w0.heap.size w0 w' ∧ KeepBut w w' g none := by
  have HI0 := Aside0.mk hI
  have HK := Aside0.mk (KeepBut.refl w g none)
  have HL := Aside0.mk hB.size
  clear hI
  have HW0 := Aside0.mk hB.size
  have HB := Aside0.mk hB
  clear hB
  have H : (if a1 ≤ 0 then (some (0, s0_1, s0_2)) else (if a1 ≤ 256 then ((spec_l1Byte.f s0_0 s0_1 s0_2).bind fun bt142 => (if a1 = 0 then (none) else (some (Int.tmod bt142.1 a1, bt142.2.1, bt142.2.2)))) else ((spec_l1Byte.f s0_0 s0_1 s0_2).bind fun bt145 => ((spec_l1Byte.f s0_0 bt145.2.1 bt145.2.2).bind fun bt148 => ((spec_l1Byte.f s0_0 bt148.2.1 bt148.2.2).bind fun bt151 => ((spec_l1Byte.f s0_0 bt151.2.1 bt151.2.2).bind fun bt154 => (if a1 = 0 then (none) else (some (Int.tmod (wrap64 ((wrap64 ((wrap64 ((wrap64 (bt145.1 * 16777216)) + (wrap64 (bt148.1 * 65536)))) + (wrap64 (bt151.1 * 256)))) + bt154.1)) a1, bt154.2.1, bt154.2.2))))))))) = some (r1, r2, r3) := h
  clear h
  by_cases c3 : a1 ≤ 0
  · rw [if_pos c3] at H
    have c3b0 : decide (a1 ≤ 0) = true := decide_eq_true c3
    clear c3
    simp only [Option.some.injEq, Prod.mk.injEq] at H
    obtain ⟨rfl, rfl, rfl⟩ := H
    go_enter Try.func72, Try.ntmps72
    go_wp2
    go_ret
    exact ⟨by first | rfl | (simp [errW_none, errW_some] <;> rfl) | (simp [*, errW_none, errW_some] <;> rfl), by repeat (first | (with_reducible first | exact HI0.out | apply IsS124.alloc | apply IsS124.drewN | apply IsS124.drew | apply IsS124.set_1 | apply IsS124.set_2) | exact HI0.out), by repeat (first | (with_reducible first | exact HB.out | apply below_alloc | apply pw_below_drewN | apply below_drew1 | refine below_set ?_ (IsS124.ge HI0.out)) | exact HB.out), by repeat (first | (with_reducible first | exact HK.out | apply KeepBut.set_ | apply keep_drewN | apply keep_drew | apply keep_alloc) | exact HK.out)⟩
  · rw [if_neg c3] at H
    have c3b0 : decide (a1 ≤ 0) = false := decide_eq_false c3
    clear c3
    by_cases c4 : a1 ≤ 256
    · rw [if_pos c4] at H
      have c4b0 : decide (a1 ≤ 256) = true := decide_eq_true c4
      clear c4
      replace H := Option.bind_eq_some_iff.mp H
      obtain ⟨⟨t142, t143, t144⟩, A50, H⟩ := H
      replace H : (if a1 = 0 then (none) else (some (Int.tmod t142 a1, t143, t144))) = some (r1, r2, r3) := H
      have A5 := Aside0.mk A50
      clear A50
      by_cases c6 : a1 = 0
      · rw [if_pos c6] at H
        exact absurd H (by simp)
      · rw [if_neg c6] at H
        have c6b0 : (a1 == 0) = false := beq_eq_false_iff_ne.mpr c6
        have c6b1 : (a1 != 0) = true := bne_iff_ne.mpr c6
        simp only [Option.some.injEq, Prod.mk.injEq] at H
        obtain ⟨rfl, rfl, rfl⟩ := H
        go_enter Try.func72, Try.ntmps72
        go_wp2_with (first | ((with_reducible refine gate_callee (f := 122) rfl ?_); refine goesL_ (some 14) rfl rfl Try.func122 (by kernel_rfl) rfl #[.pointer (some ⟨g, 0, none⟩)] rfl (by (try simp only [List.map_toArray, List.map_cons, List.map_nil]); first | done | rfl | (simp only [List.length_drop, List.length_take]; rfl)) ?_; (with_reducible refine (spec_l1Byte.calls g s0_0 s0_1 s0_2 t142 t143 t144 w0 _ ?side1 ?side2 A5.out).mono ?_); (case side1 => repeat (first | (with_reducible first | exact HI0.out | apply IsS124.alloc | apply IsS124.drewN | apply IsS124.drew | apply IsS124.set_1 | apply IsS124.set_2) | exact HI0.out)); (case side2 => repeat (first | (with_reducible first | exact HB.out | apply below_alloc | apply pw_below_drewN | apply below_drew1 | refine below_set ?_ (IsS124.ge HI0.out)) | exact HB.out)); rintro e w7 ⟨rfl, hi, hb, hk⟩; refine ⟨_, rfl, ?_⟩; have n0_ := Aside0.mk (KeepBut.trans (by repeat (first | (with_reducible first | exact HK.out | apply KeepBut.set_ | apply keep_drewN | apply keep_drew | apply keep_alloc) | exact HK.out)) hk (.inl rfl)); have n1_ := Aside0.mk (hb); have n2_ := Aside0.mk (hi); clear HK; clear HB; clear HI0; have HK := n0_; have HB := n1_; have HI0 := n2_; clear n0_ n1_ n2_; (try clear hb); (try clear hb2); (try clear hk); (try clear hi)))
        go_ret
        exact ⟨by first | rfl | (simp [errW_none, errW_some] <;> rfl) | (simp [*, errW_none, errW_some] <;> rfl), by repeat (first | (with_reducible first | exact HI0.out | apply IsS124.alloc | apply IsS124.drewN | apply IsS124.drew | apply IsS124.set_1 | apply IsS124.set_2) | exact HI0.out), by repeat (first | (with_reducible first | exact HB.out | apply below_alloc | apply pw_below_drewN | apply below_drew1 | refine below_set ?_ (IsS124.ge HI0.out)) | exact HB.out), by repeat (first | (with_reducible first | exact HK.out | apply KeepBut.set_ | apply keep_drewN | apply keep_drew | apply keep_alloc) | exact HK.out)⟩
    · rw [if_neg c4] at H
      have c4b0 : decide (a1 ≤ 256) = false := decide_eq_false c4
      clear c4
      replace H := Option.bind_eq_some_iff.mp H
      obtain ⟨⟨t145, t146, t147⟩, A80, H⟩ := H
      replace H : ((spec_l1Byte.f s0_0 t146 t147).bind fun bt148 => ((spec_l1Byte.f s0_0 bt148.2.1 bt148.2.2).bind fun bt151 => ((spec_l1Byte.f s0_0 bt151.2.1 bt151.2.2).bind fun bt154 => (if a1 = 0 then (none) else (some (Int.tmod (wrap64 ((wrap64 ((wrap64 ((wrap64 (t145 * 16777216)) + (wrap64 (bt148.1 * 65536)))) + (wrap64 (bt151.1 * 256)))) + bt154.1)) a1, bt154.2.1, bt154.2.2)))))) = some (r1, r2, r3) := H
      have A8 := Aside0.mk A80
      clear A80
      replace H := Option.bind_eq_some_iff.mp H
      obtain ⟨⟨t148, t149, t150⟩, A90, H⟩ := H
      replace H : ((spec_l1Byte.f s0_0 t149 t150).bind fun bt151 => ((spec_l1Byte.f s0_0 bt151.2.1 bt151.2.2).bind fun bt154 => (if a1 = 0 then (none) else (some (Int.tmod (wrap64 ((wrap64 ((wrap64 ((wrap64 (t145 * 16777216)) + (wrap64 (t148 * 65536)))) + (wrap64 (bt151.1 * 256)))) + bt154.1)) a1, bt154.2.1, bt154.2.2))))) = some (r1, r2, r3) := H
      have A9 := Aside0.mk A90
      clear A90
      replace H := Option.bind_eq_some_iff.mp H
      obtain ⟨⟨t151, t152, t153⟩, A100, H⟩ := H
      replace H : ((spec_l1Byte.f s0_0 t152 t153).bind fun bt154 => (if a1 = 0 then (none) else (some (Int.tmod (wrap64 ((wrap64 ((wrap64 ((wrap64 (t145 * 16777216)) + (wrap64 (t148 * 65536)))) + (wrap64 (t151 * 256)))) + bt154.1)) a1, bt154.2.1, bt154.2.2)))) = some (r1, r2, r3) := H
      have A10 := Aside0.mk A100
      clear A100
      replace H := Option.bind_eq_some_iff.mp H
      obtain ⟨⟨t154, t155, t156⟩, A110, H⟩ := H
      replace H : (if a1 = 0 then (none) else (some (Int.tmod (wrap64 ((wrap64 ((wrap64 ((wrap64 (t145 * 16777216)) + (wrap64 (t148 * 65536)))) + (wrap64 (t151 * 256)))) + t154)) a1, t155, t156))) = some (r1, r2, r3) := H
      have A11 := Aside0.mk A110
      clear A110
      by_cases c12 : a1 = 0
      · rw [if_pos c12] at H
        exact absurd H (by simp)
      · rw [if_neg c12] at H
        have c12b0 : (a1 == 0) = false := beq_eq_false_iff_ne.mpr c12
        have c12b1 : (a1 != 0) = true := bne_iff_ne.mpr c12
        simp only [Option.some.injEq, Prod.mk.injEq] at H
        obtain ⟨rfl, rfl, rfl⟩ := H
        go_enter Try.func72, Try.ntmps72
        go_wp2_with (first | ((with_reducible refine gate_callee (f := 122) rfl ?_); refine goesL_ (some 18) rfl rfl Try.func122 (by kernel_rfl) rfl #[.pointer (some ⟨g, 0, none⟩)] rfl (by (try simp only [List.map_toArray, List.map_cons, List.map_nil]); first | done | rfl | (simp only [List.length_drop, List.length_take]; rfl)) ?_; (with_reducible refine (spec_l1Byte.calls g s0_0 s0_1 s0_2 t145 t146 t147 w0 _ ?side1 ?side2 A8.out).mono ?_); (case side1 => repeat (first | (with_reducible first | exact HI0.out | apply IsS124.alloc | apply IsS124.drewN | apply IsS124.drew | apply IsS124.set_1 | apply IsS124.set_2) | exact HI0.out)); (case side2 => repeat (first | (with_reducible first | exact HB.out | apply below_alloc | apply pw_below_drewN | apply below_drew1 | refine below_set ?_ (IsS124.ge HI0.out)) | exact HB.out)); rintro e w13 ⟨rfl, hi, hb, hk⟩; refine ⟨_, rfl, ?_⟩; have n0_ := Aside0.mk (KeepBut.trans (by repeat (first | (with_reducible first | exact HK.out | apply KeepBut.set_ | apply keep_drewN | apply keep_drew | apply keep_alloc) | exact HK.out)) hk (.inl rfl)); have n1_ := Aside0.mk (hb); have n2_ := Aside0.mk (hi); clear HK; clear HB; clear HI0; have HK := n0_; have HB := n1_; have HI0 := n2_; clear n0_ n1_ n2_; (try clear hb); (try clear hb2); (try clear hk); (try clear hi)) | ((with_reducible refine gate_callee (f := 122) rfl ?_); refine goesL_ (some 20) rfl rfl Try.func122 (by kernel_rfl) rfl #[.pointer (some ⟨g, 0, none⟩)] rfl (by (try simp only [List.map_toArray, List.map_cons, List.map_nil]); first | done | rfl | (simp only [List.length_drop, List.length_take]; rfl)) ?_; (with_reducible refine (spec_l1Byte.calls g s0_0 t146 t147 t148 t149 t150 w0 _ ?side1 ?side2 A9.out).mono ?_); (case side1 => repeat (first | (with_reducible first | exact HI0.out | apply IsS124.alloc | apply IsS124.drewN | apply IsS124.drew | apply IsS124.set_1 | apply IsS124.set_2) | exact HI0.out)); (case side2 => repeat (first | (with_reducible first | exact HB.out | apply below_alloc | apply pw_below_drewN | apply below_drew1 | refine below_set ?_ (IsS124.ge HI0.out)) | exact HB.out)); rintro e w14 ⟨rfl, hi, hb, hk⟩; refine ⟨_, rfl, ?_⟩; have n0_ := Aside0.mk (KeepBut.trans (by repeat (first | (with_reducible first | exact HK.out | apply KeepBut.set_ | apply keep_drewN | apply keep_drew | apply keep_alloc) | exact HK.out)) hk (.inl rfl)); have n1_ := Aside0.mk (hb); have n2_ := Aside0.mk (hi); clear HK; clear HB; clear HI0; have HK := n0_; have HB := n1_; have HI0 := n2_; clear n0_ n1_ n2_; (try clear hb); (try clear hb2); (try clear hk); (try clear hi)) | ((with_reducible refine gate_callee (f := 122) rfl ?_); refine goesL_ (some 22) rfl rfl Try.func122 (by kernel_rfl) rfl #[.pointer (some ⟨g, 0, none⟩)] rfl (by (try simp only [List.map_toArray, List.map_cons, List.map_nil]); first | done | rfl | (simp only [List.length_drop, List.length_take]; rfl)) ?_; (with_reducible refine (spec_l1Byte.calls g s0_0 t149 t150 t151 t152 t153 w0 _ ?side1 ?side2 A10.out).mono ?_); (case side1 => repeat (first | (with_reducible first | exact HI0.out | apply IsS124.alloc | apply IsS124.drewN | apply IsS124.drew | apply IsS124.set_1 | apply IsS124.set_2) | exact HI0.out)); (case side2 => repeat (first | (with_reducible first | exact HB.out | apply below_alloc | apply pw_below_drewN | apply below_drew1 | refine below_set ?_ (IsS124.ge HI0.out)) | exact HB.out)); rintro e w15 ⟨rfl, hi, hb, hk⟩; refine ⟨_, rfl, ?_⟩; have n0_ := Aside0.mk (KeepBut.trans (by repeat (first | (with_reducible first | exact HK.out | apply KeepBut.set_ | apply keep_drewN | apply keep_drew | apply keep_alloc) | exact HK.out)) hk (.inl rfl)); have n1_ := Aside0.mk (hb); have n2_ := Aside0.mk (hi); clear HK; clear HB; clear HI0; have HK := n0_; have HB := n1_; have HI0 := n2_; clear n0_ n1_ n2_; (try clear hb); (try clear hb2); (try clear hk); (try clear hi)) | ((with_reducible refine gate_callee (f := 122) rfl ?_); refine goesL_ (some 24) rfl rfl Try.func122 (by kernel_rfl) rfl #[.pointer (some ⟨g, 0, none⟩)] rfl (by (try simp only [List.map_toArray, List.map_cons, List.map_nil]); first | done | rfl | (simp only [List.length_drop, List.length_take]; rfl)) ?_; (with_reducible refine (spec_l1Byte.calls g s0_0 t152 t153 t154 t155 t156 w0 _ ?side1 ?side2 A11.out).mono ?_); (case side1 => repeat (first | (with_reducible first | exact HI0.out | apply IsS124.alloc | apply IsS124.drewN | apply IsS124.drew | apply IsS124.set_1 | apply IsS124.set_2) | exact HI0.out)); (case side2 => repeat (first | (with_reducible first | exact HB.out | apply below_alloc | apply pw_below_drewN | apply below_drew1 | refine below_set ?_ (IsS124.ge HI0.out)) | exact HB.out)); rintro e w16 ⟨rfl, hi, hb, hk⟩; refine ⟨_, rfl, ?_⟩; have n0_ := Aside0.mk (KeepBut.trans (by repeat (first | (with_reducible first | exact HK.out | apply KeepBut.set_ | apply keep_drewN | apply keep_drew | apply keep_alloc) | exact HK.out)) hk (.inl rfl)); have n1_ := Aside0.mk (hb); have n2_ := Aside0.mk (hi); clear HK; clear HB; clear HI0; have HK := n0_; have HB := n1_; have HI0 := n2_; clear n0_ n1_ n2_; (try clear hb); (try clear hb2); (try clear hk); (try clear hi)))
        go_ret
        exact ⟨by first | rfl | (simp [errW_none, errW_some] <;> rfl) | (simp [*, errW_none, errW_some] <;> rfl), by repeat (first | (with_reducible first | exact HI0.out | apply IsS124.alloc | apply IsS124.drewN | apply IsS124.drew | apply IsS124.set_1 | apply IsS124.set_2) | exact HI0.out), by repeat (first | (with_reducible first | exact HB.out | apply below_alloc | apply pw_below_drewN | apply below_drew1 | refine below_set ?_ (IsS124.ge HI0.out)) | exact HB.out), by repeat (first | (with_reducible first | exact HK.out | apply KeepBut.set_ | apply keep_drewN | apply keep_drew | apply keep_alloc) | exact HK.out)⟩

end Go.Proofs.Ytnpoimjdkjhcpaa.PFnMapped
