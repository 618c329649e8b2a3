/- What functions of the program come to, each with the proof that it does, laid by a program of this session out of the translation; no condition is set on any claim. -/
import Derived.Test.YtaopbkbjfmfcdaaZSfPx0
namespace Go.Proofs.Ytaopbkbjfmfcdaa.P
open Go.RowKit Go.Proofs.YtaopbkbjfmfcdaaW.PrintWords Go.Proofs.YtaopbkbjfmfcdaaW.PrintLast Go.Proofs.YtaopbkbjfmfcdaaW.PrintMore
attribute [local go_sem] max2_int min2_int max_two min_two max_three min_three max_four min_four   -- for this text's walks alone
set_option linter.unusedVariables false
set_option linter.unusedSimpArgs false

/-! ### impl_IsTrit: function 50 -/
def impl_IsTrit.f (a0 : Int) : Option (Bool) := if a0 ≥ (-1) then (some (decide (a0 ≤ 1))) else (some false)
set_option maxHeartbeats 8000000 in
set_option maxRecDepth 100000 in
theorem impl_IsTrit.calls (a0 : Int) (r : Bool) (w : World) (h : impl_IsTrit.f a0 = some r) :
    Calls Try.prog 50 #[.int .i64 a0] w fun e w' => e = .returned (.bool r) ∧ Drawn0 w w' := by
  have H : (if a0 ≥ (-1) then (some (decide (a0 ≤ 1))) else (some false)) = some r := h
  clear h
  by_cases c2 : a0 ≥ (-1)
  · rw [if_pos c2] at H
    have c2b0 : decide ((-1) ≤ a0) = true := decide_eq_true c2
    clear c2
    obtain rfl := Option.some.inj H
    go_enter Try.func50, Try.ntmps50
    go_wp2
    go_ret
    exact ⟨by first | rfl | (simp; done) | (simp [*]; done), by repeat (first | exact Drawn0.refl _ | apply Drawn0.step)⟩
  · rw [if_neg c2] at H
    have c2b0 : decide ((-1) ≤ a0) = false := decide_eq_false c2
    clear c2
    obtain rfl := Option.some.inj H
    go_enter Try.func50, Try.ntmps50
    go_wp2
    go_ret
    exact ⟨by first | rfl | (simp; done) | (simp [*]; done), by repeat (first | exact Drawn0.refl _ | apply Drawn0.step)⟩

/-! ### spec_l1In: function 55 -/
def spec_l1In.f (a0 : Int) (a1 : Int) (a2 : Int) : Option (Bool) := if a0 ≥ a1 then (some (decide (a0 ≤ a2))) else (some false)
set_option maxHeartbeats 8000000 in
set_option maxRecDepth 100000 in
theorem spec_l1In.calls (a0 : Int) (a1 : Int) (a2 : Int) (r : Bool) (w : World) (h : spec_l1In.f a0 a1 a2 = some r) :
    Calls Try.prog 55 #[.int .i64 a0, .int .i64 a1, .int .i64 a2] w fun e w' => e = .returned (.bool r) ∧ Drawn0 w w' := by
  have H : (if a0 ≥ a1 then (some (decide (a0 ≤ a2))) else (some false)) = some r := h
  clear h
  by_cases c4 : a0 ≥ a1
  · rw [if_pos c4] at H
    have c4b0 : decide (a1 ≤ a0) = true := decide_eq_true c4
    clear c4
    obtain rfl := Option.some.inj H
    go_enter Try.func55, Try.ntmps55
    go_wp2
    go_ret
    exact ⟨by first | rfl | (simp; done) | (simp [*]; done), by repeat (first | exact Drawn0.refl _ | apply Drawn0.step)⟩
  · rw [if_neg c4] at H
    have c4b0 : decide (a1 ≤ a0) = false := decide_eq_false c4
    clear c4
    obtain rfl := Option.some.inj H
    go_enter Try.func55, Try.ntmps55
    go_wp2
    go_ret
    exact ⟨by first | rfl | (simp; done) | (simp [*]; done), by repeat (first | exact Drawn0.refl _ | apply Drawn0.step)⟩

/-! ### spec_IsTrit: function 49 -/
def spec_IsTrit.f (a0 : Int) : Option (Bool) := (spec_l1In.f a0 (-1) 1).bind fun t101 => (some t101)
set_option maxHeartbeats 8000000 in
set_option maxRecDepth 100000 in
theorem spec_IsTrit.calls (a0 : Int) (r : Bool) (w : World) (h : spec_IsTrit.f a0 = some r) :
    Calls Try.prog 49 #[.int .i64 a0] w fun e w' => e = .returned (.bool r) ∧ Drawn0 w w' := by
  have H : ((spec_l1In.f a0 (-1) 1).bind fun t101 => (some t101)) = some r := h
  clear h
  replace H := Option.bind_eq_some_iff.mp H
  obtain ⟨t101, A20, H⟩ := H
  replace H : (some t101) = some r := H
  have A2 := Aside0.mk A20
  clear A20
  obtain rfl := Option.some.inj H
  go_enter Try.func49, Try.ntmps49
  go_wp2_with (first | ((with_reducible refine gate_callee (f := 55) rfl ?_); refine goesL_ (some 4) rfl rfl Try.func55 (by kernel_rfl) rfl #[.int .i64 a0, .int .i64 (-1), .int .i64 1] rfl (by (try simp only [List.map_toArray, List.map_cons, List.map_nil]); first | done | rfl | (simp only [List.length_drop, List.length_take]; rfl)) ?_; (with_reducible refine (spec_l1In.calls a0 (-1) 1 t101 _ A2.out).mono ?_); rintro e w' ⟨rfl, ⟨nd, rfl⟩⟩; refine ⟨_, rfl, ?_⟩))
  go_ret
  exact ⟨by first | rfl | (simp; done) | (simp [*]; done), by repeat (first | exact Drawn0.refl _ | apply Drawn0.step)⟩

/-! ### spec_IsTable: function 56 -/
def trB (x : Int) : Bool := decide (-1 ≤ x) && decide (x ≤ 1)
def isT9 (l : List Int) : Bool := l.all trB
theorem spec_trB (x : Int) : spec_IsTrit.f x = some (trB x) := by
  unfold spec_IsTrit.f spec_l1In.f trB
  by_cases c : -1 ≤ x <;> simp [c]
def spec_IsTable.f (a0_0 a0_1 a0_2 a0_3 a0_4 a0_5 a0_6 a0_7 a0_8 : Int) : Option Bool := some (isT9 [a0_0, a0_1, a0_2, a0_3, a0_4, a0_5, a0_6, a0_7, a0_8])
set_option maxHeartbeats 8000000 in
set_option maxRecDepth 100000 in
theorem spec_IsTable.calls (a0_0 a0_1 a0_2 a0_3 a0_4 a0_5 a0_6 a0_7 a0_8 : Int) (r : Bool) (w : World) (h : spec_IsTable.f a0_0 a0_1 a0_2 a0_3 a0_4 a0_5 a0_6 a0_7 a0_8 = some r) :
    Calls Try.prog 56 #[.agg #[.int .i64 a0_0, .int .i64 a0_1, .int .i64 a0_2, .int .i64 a0_3, .int .i64 a0_4, .int .i64 a0_5, .int .i64 a0_6, .int .i64 a0_7, .int .i64 a0_8]] w fun e w' => e = .returned (.bool r) ∧ Below w.heap.size w w' := by
  have HR := Aside0.mk (Option.some.inj h)
  clear h
  have HB := Aside0.mk (Below.refl w.heap.size w)
  go_enter Try.func56, Try.ntmps56
  go_wp2
  go_loopg [3] 10 (fun kq v3 w' => ∃ i : Nat, v3 = .int .i64 (i : Int) ∧ Aside0 ((∀ j, j < i → trB (([a0_0, a0_1, a0_2, a0_3, a0_4, a0_5, a0_6, a0_7, a0_8] : List Int).getD j 0) = true) ∧ i ≤ 9 ∧ kq = 10 - i) ∧ Drawn0 (w.alloc (.cells #[.int .i64 a0_0, .int .i64 a0_1, .int .i64 a0_2, .int .i64 a0_3, .int .i64 a0_4, .int .i64 a0_5, .int .i64 a0_6, .int .i64 a0_7, .int .i64 a0_8] 23)) w')
  case atStart => exact ⟨0, rfl, ⟨fun j hj => absurd hj (Nat.not_lt_zero _), by omega, rfl⟩, by repeat (first | exact Drawn0.refl _ | apply Drawn0.step)⟩
  case round =>
    obtain ⟨i, rfl, HA, ⟨m1, rfl⟩⟩ := hrel
    have hi : i = 9 ∨ i = 0 ∨ i = 1 ∨ i = 2 ∨ i = 3 ∨ i = 4 ∨ i = 5 ∨ i = 6 ∨ i = 7 ∨ i = 8 := by have := HA.out.2; omega
    rcases hi with rfl | rfl | rfl | rfl | rfl | rfl | rfl | rfl | rfl | rfl
    · have e0 : trB a0_0 = true := HA.out.1 0 (by omega)
      have e1 : trB a0_1 = true := HA.out.1 1 (by omega)
      have e2 : trB a0_2 = true := HA.out.1 2 (by omega)
      have e3 : trB a0_3 = true := HA.out.1 3 (by omega)
      have e4 : trB a0_4 = true := HA.out.1 4 (by omega)
      have e5 : trB a0_5 = true := HA.out.1 5 (by omega)
      have e6 : trB a0_6 = true := HA.out.1 6 (by omega)
      have e7 : trB a0_7 = true := HA.out.1 7 (by omega)
      have e8 : trB a0_8 = true := HA.out.1 8 (by omega)
      have E0 : isT9 [a0_0, a0_1, a0_2, a0_3, a0_4, a0_5, a0_6, a0_7, a0_8] = true := by simp only [isT9, List.all_cons, List.all_nil, e0, e1, e2, e3, e4, e5, e6, e7, e8, Bool.and_self]
      have E := Aside0.mk E0
      clear E0 e0 e1 e2 e3 e4 e5 e6 e7 e8
      go_wp2
      go_ret
      exact ⟨congrArg (fun b_ => Ending.returned (Value.bool b_)) (HR.out.symm.trans E.out).symm, by repeat (first | (with_reducible first | exact HB.out | apply below_alloc | apply pw_below_drewN | apply below_drew1) | exact HB.out)⟩
    · cases c : trB a0_0 with
      | true =>
        have HF := Aside0.mk ((spec_trB a0_0).trans (congrArg some c))
        have HC := Aside0.mk c
        clear c
        go_wp2_with (go_at_call 49; (with_reducible refine (spec_IsTrit.calls a0_0 true _ HF.out).mono ?_); rintro e w' ⟨rfl, ⟨nd, rfl⟩⟩)
        go_roundg (gk - 1)
        case measure => have := HA.out.2; omega
        case rel => exact ⟨1, rfl, ⟨⟨fun j hj => (Nat.lt_or_ge j 0).elim (HA.out.1 j) (fun q => (show j = 0 by omega) ▸ HC.out), by omega, by have := HA.out.2; omega⟩⟩, by repeat (first | exact Drawn0.refl _ | apply Drawn0.step)⟩
      | false =>
        have HF := Aside0.mk ((spec_trB a0_0).trans (congrArg some c))
        have E0 : isT9 [a0_0, a0_1, a0_2, a0_3, a0_4, a0_5, a0_6, a0_7, a0_8] = false := by simp only [isT9, List.all_cons, List.all_nil, c, Bool.and_false, Bool.false_and]
        have E := Aside0.mk E0
        clear c E0
        go_wp2_with (go_at_call 49; (with_reducible refine (spec_IsTrit.calls a0_0 false _ HF.out).mono ?_); rintro e w' ⟨rfl, ⟨nd, rfl⟩⟩)
        go_ret
        exact ⟨congrArg (fun b_ => Ending.returned (Value.bool b_)) (HR.out.symm.trans E.out).symm, by repeat (first | (with_reducible first | exact HB.out | apply below_alloc | apply pw_below_drewN | apply below_drew1) | exact HB.out)⟩
    · cases c : trB a0_1 with
      | true =>
        have HF := Aside0.mk ((spec_trB a0_1).trans (congrArg some c))
        have HC := Aside0.mk c
        clear c
        go_wp2_with (go_at_call 49; (with_reducible refine (spec_IsTrit.calls a0_1 true _ HF.out).mono ?_); rintro e w' ⟨rfl, ⟨nd, rfl⟩⟩)
        go_roundg (gk - 1)
        case measure => have := HA.out.2; omega
        case rel => exact ⟨2, rfl, ⟨⟨fun j hj => (Nat.lt_or_ge j 1).elim (HA.out.1 j) (fun q => (show j = 1 by omega) ▸ HC.out), by omega, by have := HA.out.2; omega⟩⟩, by repeat (first | exact Drawn0.refl _ | apply Drawn0.step)⟩
      | false =>
        have HF := Aside0.mk ((spec_trB a0_1).trans (congrArg some c))
        have E0 : isT9 [a0_0, a0_1, a0_2, a0_3, a0_4, a0_5, a0_6, a0_7, a0_8] = false := by simp only [isT9, List.all_cons, List.all_nil, c, Bool.and_false, Bool.false_and]
        have E := Aside0.mk E0
        clear c E0
        go_wp2_with (go_at_call 49; (with_reducible refine (spec_IsTrit.calls a0_1 false _ HF.out).mono ?_); rintro e w' ⟨rfl, ⟨nd, rfl⟩⟩)
        go_ret
        exact ⟨congrArg (fun b_ => Ending.returned (Value.bool b_)) (HR.out.symm.trans E.out).symm, by repeat (first | (with_reducible first | exact HB.out | apply below_alloc | apply pw_below_drewN | apply below_drew1) | exact HB.out)⟩
    · cases c : trB a0_2 with
      | true =>
        have HF := Aside0.mk ((spec_trB a0_2).trans (congrArg some c))
        have HC := Aside0.mk c
        clear c
        go_wp2_with (go_at_call 49; (with_reducible refine (spec_IsTrit.calls a0_2 true _ HF.out).mono ?_); rintro e w' ⟨rfl, ⟨nd, rfl⟩⟩)
        go_roundg (gk - 1)
        case measure => have := HA.out.2; omega
        case rel => exact ⟨3, rfl, ⟨⟨fun j hj => (Nat.lt_or_ge j 2).elim (HA.out.1 j) (fun q => (show j = 2 by omega) ▸ HC.out), by omega, by have := HA.out.2; omega⟩⟩, by repeat (first | exact Drawn0.refl _ | apply Drawn0.step)⟩
      | false =>
        have HF := Aside0.mk ((spec_trB a0_2).trans (congrArg some c))
        have E0 : isT9 [a0_0, a0_1, a0_2, a0_3, a0_4, a0_5, a0_6, a0_7, a0_8] = false := by simp only [isT9, List.all_cons, List.all_nil, c, Bool.and_false, Bool.false_and]
        have E := Aside0.mk E0
        clear c E0
        go_wp2_with (go_at_call 49; (with_reducible refine (spec_IsTrit.calls a0_2 false _ HF.out).mono ?_); rintro e w' ⟨rfl, ⟨nd, rfl⟩⟩)
        go_ret
        exact ⟨congrArg (fun b_ => Ending.returned (Value.bool b_)) (HR.out.symm.trans E.out).symm, by repeat (first | (with_reducible first | exact HB.out | apply below_alloc | apply pw_below_drewN | apply below_drew1) | exact HB.out)⟩
    · cases c : trB a0_3 with
      | true =>
        have HF := Aside0.mk ((spec_trB a0_3).trans (congrArg some c))
        have HC := Aside0.mk c
        clear c
        go_wp2_with (go_at_call 49; (with_reducible refine (spec_IsTrit.calls a0_3 true _ HF.out).mono ?_); rintro e w' ⟨rfl, ⟨nd, rfl⟩⟩)
        go_roundg (gk - 1)
        case measure => have := HA.out.2; omega
        case rel => exact ⟨4, rfl, ⟨⟨fun j hj => (Nat.lt_or_ge j 3).elim (HA.out.1 j) (fun q => (show j = 3 by omega) ▸ HC.out), by omega, by have := HA.out.2; omega⟩⟩, by repeat (first | exact Drawn0.refl _ | apply Drawn0.step)⟩
      | false =>
        have HF := Aside0.mk ((spec_trB a0_3).trans (congrArg some c))
        have E0 : isT9 [a0_0, a0_1, a0_2, a0_3, a0_4, a0_5, a0_6, a0_7, a0_8] = false := by simp only [isT9, List.all_cons, List.all_nil, c, Bool.and_false, Bool.false_and]
        have E := Aside0.mk E0
        clear c E0
        go_wp2_with (go_at_call 49; (with_reducible refine (spec_IsTrit.calls a0_3 false _ HF.out).mono ?_); rintro e w' ⟨rfl, ⟨nd, rfl⟩⟩)
        go_ret
        exact ⟨congrArg (fun b_ => Ending.returned (Value.bool b_)) (HR.out.symm.trans E.out).symm, by repeat (first | (with_reducible first | exact HB.out | apply below_alloc | apply pw_below_drewN | apply below_drew1) | exact HB.out)⟩
    · cases c : trB a0_4 with
      | true =>
        have HF := Aside0.mk ((spec_trB a0_4).trans (congrArg some c))
        have HC := Aside0.mk c
        clear c
        go_wp2_with (go_at_call 49; (with_reducible refine (spec_IsTrit.calls a0_4 true _ HF.out).mono ?_); rintro e w' ⟨rfl, ⟨nd, rfl⟩⟩)
        go_roundg (gk - 1)
        case measure => have := HA.out.2; omega
        case rel => exact ⟨5, rfl, ⟨⟨fun j hj => (Nat.lt_or_ge j 4).elim (HA.out.1 j) (fun q => (show j = 4 by omega) ▸ HC.out), by omega, by have := HA.out.2; omega⟩⟩, by repeat (first | exact Drawn0.refl _ | apply Drawn0.step)⟩
      | false =>
        have HF := Aside0.mk ((spec_trB a0_4).trans (congrArg some c))
        have E0 : isT9 [a0_0, a0_1, a0_2, a0_3, a0_4, a0_5, a0_6, a0_7, a0_8] = false := by simp only [isT9, List.all_cons, List.all_nil, c, Bool.and_false, Bool.false_and]
        have E := Aside0.mk E0
        clear c E0
        go_wp2_with (go_at_call 49; (with_reducible refine (spec_IsTrit.calls a0_4 false _ HF.out).mono ?_); rintro e w' ⟨rfl, ⟨nd, rfl⟩⟩)
        go_ret
        exact ⟨congrArg (fun b_ => Ending.returned (Value.bool b_)) (HR.out.symm.trans E.out).symm, by repeat (first | (with_reducible first | exact HB.out | apply below_alloc | apply pw_below_drewN | apply below_drew1) | exact HB.out)⟩
    · cases c : trB a0_5 with
      | true =>
        have HF := Aside0.mk ((spec_trB a0_5).trans (congrArg some c))
        have HC := Aside0.mk c
        clear c
        go_wp2_with (go_at_call 49; (with_reducible refine (spec_IsTrit.calls a0_5 true _ HF.out).mono ?_); rintro e w' ⟨rfl, ⟨nd, rfl⟩⟩)
        go_roundg (gk - 1)
        case measure => have := HA.out.2; omega
        case rel => exact ⟨6, rfl, ⟨⟨fun j hj => (Nat.lt_or_ge j 5).elim (HA.out.1 j) (fun q => (show j = 5 by omega) ▸ HC.out), by omega, by have := HA.out.2; omega⟩⟩, by repeat (first | exact Drawn0.refl _ | apply Drawn0.step)⟩
      | false =>
        have HF := Aside0.mk ((spec_trB a0_5).trans (congrArg some c))
        have E0 : isT9 [a0_0, a0_1, a0_2, a0_3, a0_4, a0_5, a0_6, a0_7, a0_8] = false := by simp only [isT9, List.all_cons, List.all_nil, c, Bool.and_false, Bool.false_and]
        have E := Aside0.mk E0
        clear c E0
        go_wp2_with (go_at_call 49; (with_reducible refine (spec_IsTrit.calls a0_5 false _ HF.out).mono ?_); rintro e w' ⟨rfl, ⟨nd, rfl⟩⟩)
        go_ret
        exact ⟨congrArg (fun b_ => Ending.returned (Value.bool b_)) (HR.out.symm.trans E.out).symm, by repeat (first | (with_reducible first | exact HB.out | apply below_alloc | apply pw_below_drewN | apply below_drew1) | exact HB.out)⟩
    · cases c : trB a0_6 with
      | true =>
        have HF := Aside0.mk ((spec_trB a0_6).trans (congrArg some c))
        have HC := Aside0.mk c
        clear c
        go_wp2_with (go_at_call 49; (with_reducible refine (spec_IsTrit.calls a0_6 true _ HF.out).mono ?_); rintro e w' ⟨rfl, ⟨nd, rfl⟩⟩)
        go_roundg (gk - 1)
        case measure => have := HA.out.2; omega
        case rel => exact ⟨7, rfl, ⟨⟨fun j hj => (Nat.lt_or_ge j 6).elim (HA.out.1 j) (fun q => (show j = 6 by omega) ▸ HC.out), by omega, by have := HA.out.2; omega⟩⟩, by repeat (first | exact Drawn0.refl _ | apply Drawn0.step)⟩
      | false =>
        have HF := Aside0.mk ((spec_trB a0_6).trans (congrArg some c))
        have E0 : isT9 [a0_0, a0_1, a0_2, a0_3, a0_4, a0_5, a0_6, a0_7, a0_8] = false := by simp only [isT9, List.all_cons, List.all_nil, c, Bool.and_false, Bool.false_and]
        have E := Aside0.mk E0
        clear c E0
        go_wp2_with (go_at_call 49; (with_reducible refine (spec_IsTrit.calls a0_6 false _ HF.out).mono ?_); rintro e w' ⟨rfl, ⟨nd, rfl⟩⟩)
        go_ret
        exact ⟨congrArg (fun b_ => Ending.returned (Value.bool b_)) (HR.out.symm.trans E.out).symm, by repeat (first | (with_reducible first | exact HB.out | apply below_alloc | apply pw_below_drewN | apply below_drew1) | exact HB.out)⟩
    · cases c : trB a0_7 with
      | true =>
        have HF := Aside0.mk ((spec_trB a0_7).trans (congrArg some c))
        have HC := Aside0.mk c
        clear c
        go_wp2_with (go_at_call 49; (with_reducible refine (spec_IsTrit.calls a0_7 true _ HF.out).mono ?_); rintro e w' ⟨rfl, ⟨nd, rfl⟩⟩)
        go_roundg (gk - 1)
        case measure => have := HA.out.2; omega
        case rel => exact ⟨8, rfl, ⟨⟨fun j hj => (Nat.lt_or_ge j 7).elim (HA.out.1 j) (fun q => (show j = 7 by omega) ▸ HC.out), by omega, by have := HA.out.2; omega⟩⟩, by repeat (first | exact Drawn0.refl _ | apply Drawn0.step)⟩
      | false =>
        have HF := Aside0.mk ((spec_trB a0_7).trans (congrArg some c))
        have E0 : isT9 [a0_0, a0_1, a0_2, a0_3, a0_4, a0_5, a0_6, a0_7, a0_8] = false := by simp only [isT9, List.all_cons, List.all_nil, c, Bool.and_false, Bool.false_and]
        have E := Aside0.mk E0
        clear c E0
        go_wp2_with (go_at_call 49; (with_reducible refine (spec_IsTrit.calls a0_7 false _ HF.out).mono ?_); rintro e w' ⟨rfl, ⟨nd, rfl⟩⟩)
        go_ret
        exact ⟨congrArg (fun b_ => Ending.returned (Value.bool b_)) (HR.out.symm.trans E.out).symm, by repeat (first | (with_reducible first | exact HB.out | apply below_alloc | apply pw_below_drewN | apply below_drew1) | exact HB.out)⟩
    · cases c : trB a0_8 with
      | true =>
        have HF := Aside0.mk ((spec_trB a0_8).trans (congrArg some c))
        have HC := Aside0.mk c
        clear c
        go_wp2_with (go_at_call 49; (with_reducible refine (spec_IsTrit.calls a0_8 true _ HF.out).mono ?_); rintro e w' ⟨rfl, ⟨nd, rfl⟩⟩)
        go_roundg (gk - 1)
        case measure => have := HA.out.2; omega
        case rel => exact ⟨9, rfl, ⟨⟨fun j hj => (Nat.lt_or_ge j 8).elim (HA.out.1 j) (fun q => (show j = 8 by omega) ▸ HC.out), by omega, by have := HA.out.2; omega⟩⟩, by repeat (first | exact Drawn0.refl _ | apply Drawn0.step)⟩
      | false =>
        have HF := Aside0.mk ((spec_trB a0_8).trans (congrArg some c))
        have E0 : isT9 [a0_0, a0_1, a0_2, a0_3, a0_4, a0_5, a0_6, a0_7, a0_8] = false := by simp only [isT9, List.all_cons, List.all_nil, c, Bool.and_false, Bool.false_and]
        have E := Aside0.mk E0
        clear c E0
        go_wp2_with (go_at_call 49; (with_reducible refine (spec_IsTrit.calls a0_8 false _ HF.out).mono ?_); rintro e w' ⟨rfl, ⟨nd, rfl⟩⟩)
        go_ret
        exact ⟨congrArg (fun b_ => Ending.returned (Value.bool b_)) (HR.out.symm.trans E.out).symm, by repeat (first | (with_reducible first | exact HB.out | apply below_alloc | apply pw_below_drewN | apply below_drew1) | exact HB.out)⟩

/-! ### impl_trits: function 65 -/
def impl_trits.l0 : Nat → List Int → Int → Int → Option (Bool)
  | 0, _, _, _ => none
  | k + 1, x5, x6, x7 => if x7 < x6 then (if 0 ≤ x7 then (if x7 < (x5.length : Int) then ((impl_IsTrit.f (rd x5 x7)).bind fun t102 => (if t102 = true then (impl_trits.l0 k x5 x6 (wrap64 (x7 + 1))) else (some false))) else (none)) else (none)) else (some true)
def impl_trits.f (k : Nat) (l0 : List Int) : Option (Bool) := impl_trits.l0 k l0 (l0.length : Int) 0
theorem impl_trits.mono_l : ∀ k, (∀ y0 y1 y2, LeO (impl_trits.l0 k y0 y1 y2) (impl_trits.l0 (k + 1) y0 y1 y2))
  | 0 => fun _ _ _ r h => by simp [impl_trits.l0] at h
  | k + 1 => by
    have ih0 := impl_trits.mono_l k
    · intro y0 y1 y2
      unfold impl_trits.l0
      repeat' first
      | (with_reducible exact ih0 _ _ _)
      | (with_reducible exact LeO.refl _)
      | (with_reducible exact LeO.none _)
      | (with_reducible refine LeO.ite ?_ ?_)
      | (with_reducible refine LeO.bind ?_ (fun _ => ?_))
      | exact ih0 _ _ _
      | exact LeO.none _
      | refine LeO.ite ?_ ?_
      | refine LeO.bind ?_ (fun _ => ?_)
theorem impl_trits.mono : ∀ a0 k, LeO (impl_trits.f k a0) (impl_trits.f (k + 1) a0) := by
  intro a0 k
  have ih0 := impl_trits.mono_l k
  unfold impl_trits.f
  repeat' first
      | (with_reducible exact ih0 _ _ _)
      | (with_reducible exact LeO.refl _)
      | (with_reducible exact LeO.none _)
      | (with_reducible refine LeO.ite ?_ ?_)
      | (with_reducible refine LeO.bind ?_ (fun _ => ?_))
      | exact ih0 _ _ _
      | exact LeO.none _
      | refine LeO.ite ?_ ?_
      | refine LeO.bind ?_ (fun _ => ?_)
set_option maxHeartbeats 8000000 in
set_option maxRecDepth 100000 in
theorem impl_trits.calls (k : Nat) (A0 : Option Addr) (c0 : Nat) (l0 : List Int) (r : Bool) (w : World) (hr0 : Kd.C (Kd.int .i64) w A0 l0.length l0) (hc0 : l0.length ≤ c0) (h : impl_trits.f k l0 = some r) :
    Calls Try.prog 65 #[.slice A0 l0.length c0] w fun e w' => e = .returned (.bool r) ∧ Drawn0 w w' := by
  have HR0 := Aside0.mk hr0
  have HC0 := Aside0.mk hc0
  clear hr0 hc0
  have H : (impl_trits.l0 k l0 (l0.length : Int) 0) = some r := h
  clear h
  have H' := Aside0.mk H
  clear H
  go_enter Try.func65, Try.ntmps65
  go_wp2
  go_loopg [7] k (fun kq v7 w' => ∃ (x7_1 : Int), v7 = .int .i64 x7_1 ∧ Aside0 (impl_trits.l0 kq l0 (l0.length : Int) x7_1 = some r) ∧ Aside0 (kq ≤ k) ∧ Drawn0 w w')
  case atStart => exact ⟨(0), (by first | rfl | (simp; done) | (simp [*]; done)), H', ⟨Nat.le_refl _⟩, by repeat (first | exact Drawn0.refl _ | apply Drawn0.step)⟩
  case round =>
    clear H'
    obtain ⟨x7_1, rfl, HA, HK1, ⟨m1, rfl⟩⟩ := hrel
    cases gk with
    | zero => exact absurd HA.out (by simp [impl_trits.l0])
    | succ k1 =>
      have H := HA.out
      clear HA
      simp only [impl_trits.l0] at H
      by_cases c2 : x7_1 < (l0.length : Int)
      · rw [if_pos c2] at H
        have c2b0 : decide (x7_1 < (l0.length : Int)) = true := decide_eq_true c2
        clear c2
        by_cases c3 : 0 ≤ x7_1
        · rw [if_pos c3] at H
          have c3b0 : decide (0 ≤ x7_1) = true := decide_eq_true c3
          clear c3
          by_cases c4 : x7_1 < (l0.length : Int)
          · rw [if_pos c4] at H
            have c4b0 : decide (x7_1 < (l0.length : Int)) = true := decide_eq_true c4
            clear c4
            replace H := Option.bind_eq_some_iff.mp H
            obtain ⟨t102, A50, H⟩ := H
            replace H : (if t102 = true then (impl_trits.l0 k1 l0 (l0.length : Int) (wrap64 (x7_1 + 1))) else (some false)) = some r := H
            have A5 := Aside0.mk A50
            clear A50
            by_cases c6 : t102 = true
            · subst c6
              have H1 : (impl_trits.l0 k1 l0 (l0.length : Int) (wrap64 (x7_1 + 1))) = some r := by rw [if_pos rfl] at H; exact H
              clear H
              have H := H1
              clear H1
              have H' := Aside0.mk H
              clear H
              have p101 : 0 ≤ (x7_1 : Int) := of_decide_eq_true (by first | (with_reducible assumption) | assumption)
              have q101 : x7_1 < (l0.length : Int) := of_decide_eq_true (by first | (with_reducible assumption) | assumption)
              obtain ⟨ad101, e101, hx101_0⟩ := Kd.at_int HR0.out x7_1 p101 q101
              cases e101
              replace p101 := eq_true p101
              replace q101 := eq_true q101
              go_wp2_with (first | ((with_reducible refine gate_callee (f := 50) rfl ?_); refine goesL_ (some 12) rfl rfl Try.func50 (by kernel_rfl) rfl #[.int .i64 (rd l0 x7_1)] rfl (by (try simp only [List.map_toArray, List.map_cons, List.map_nil]); first | done | rfl | (simp only [List.length_drop, List.length_take]; rfl)) ?_; (with_reducible refine (impl_IsTrit.calls (rd l0 x7_1) true _ A5.out).mono ?_); rintro e w' ⟨rfl, ⟨nd, rfl⟩⟩; refine ⟨_, rfl, ?_⟩))
              go_roundg k1
              case measure => have := HK1.out; omega
              case rel => exact ⟨(wrap64 (x7_1 + 1)), (by first | rfl | (simp; done) | (simp [*]; done)), H', ⟨by have := HK1.out; omega⟩, by repeat (first | exact Drawn0.refl _ | apply Drawn0.step)⟩
            · replace c6 := Bool.eq_false_iff.mpr c6
              subst c6
              have H1 : (some false) = some r := by rw [if_neg (show ¬ (false = true) by decide)] at H; exact H
              clear H
              have H := H1
              clear H1
              obtain rfl := Option.some.inj H
              have p101 : 0 ≤ (x7_1 : Int) := of_decide_eq_true (by first | (with_reducible assumption) | assumption)
              have q101 : x7_1 < (l0.length : Int) := of_decide_eq_true (by first | (with_reducible assumption) | assumption)
              obtain ⟨ad101, e101, hx101_0⟩ := Kd.at_int HR0.out x7_1 p101 q101
              cases e101
              replace p101 := eq_true p101
              replace q101 := eq_true q101
              go_wp2_with (first | ((with_reducible refine gate_callee (f := 50) rfl ?_); refine goesL_ (some 12) rfl rfl Try.func50 (by kernel_rfl) rfl #[.int .i64 (rd l0 x7_1)] rfl (by (try simp only [List.map_toArray, List.map_cons, List.map_nil]); first | done | rfl | (simp only [List.length_drop, List.length_take]; rfl)) ?_; (with_reducible refine (impl_IsTrit.calls (rd l0 x7_1) false _ A5.out).mono ?_); rintro e w' ⟨rfl, ⟨nd, rfl⟩⟩; refine ⟨_, rfl, ?_⟩))
              go_ret
              exact ⟨by first | rfl | (simp; done) | (simp [*]; done), by repeat (first | exact Drawn0.refl _ | apply Drawn0.step)⟩
          · rw [if_neg c4] at H
            exact absurd H (by simp)
        · rw [if_neg c3] at H
          exact absurd H (by simp)
      · rw [if_neg c2] at H
        have c2b0 : decide (x7_1 < (l0.length : Int)) = false := decide_eq_false c2
        clear c2
        obtain rfl := Option.some.inj H
        go_wp2
        go_ret
        exact ⟨by first | rfl | (simp; done) | (simp [*]; done), by repeat (first | exact Drawn0.refl _ | apply Drawn0.step)⟩

/-! ### impl_IsTable: function 58 -/
theorem impl_trB (x : Int) : impl_IsTrit.f x = some (trB x) := by
  unfold impl_IsTrit.f trB
  by_cases c : -1 ≤ x <;> simp [c]
theorem bindS {α β : Type} (x : α) (f : α → Option β) : (some x).bind f = f x := by
  cases h : f x with
  | none => simp [h]
  | some y => simp [h]
theorem impl_trits_go (l : List Int) (hl : l.length ≤ 2000000) : ∀ (d k i : Nat), i + d = l.length → d < k →
    impl_trits.l0 k l (l.length : Int) (i : Int) = some (isT9 (l.drop i)) := by
  intro d
  induction d with
  | zero =>
    intro k i h hk
    obtain ⟨k, rfl⟩ : ∃ m, k = m + 1 := ⟨k - 1, by omega⟩
    simp only [impl_trits.l0]
    rw [if_neg (by omega), List.drop_eq_nil_of_le (by omega)]
    rfl
  | succ d ih =>
    intro k i h hk
    obtain ⟨k, rfl⟩ : ∃ m, k = m + 1 := ⟨k - 1, by omega⟩
    simp only [impl_trits.l0]
    have hd : l.drop i = rd l (i : Int) :: l.drop (i + 1) := by
      rw [List.drop_eq_getElem_cons (by omega)]
      congr 1
      simp [rd, List.getElem?_eq_getElem (show i < l.length by omega)]
    rw [if_pos (by omega), if_pos (by omega), if_pos (by omega), impl_trB, bindS, hd]
    cases c : trB (rd l (i : Int)) with
    | true =>
      rw [if_pos rfl, show wrap64 ((i : Int) + 1) = ((i + 1 : Nat) : Int) by unfold wrap64; omega, ih k (i + 1) (by omega) (by omega)]
      simp [isT9, c]
    | false =>
      rw [if_neg (by decide)]
      simp [isT9, c]
theorem t9_cells (a0_0 a0_1 a0_2 a0_3 a0_4 a0_5 a0_6 a0_7 a0_8 : Int) : (#[.int .i64 a0_0, .int .i64 a0_1, .int .i64 a0_2, .int .i64 a0_3, .int .i64 a0_4, .int .i64 a0_5, .int .i64 a0_6, .int .i64 a0_7, .int .i64 a0_8] : Array Value) = (([a0_0, a0_1, a0_2, a0_3, a0_4, a0_5, a0_6, a0_7, a0_8] : List Int).map (Value.int .i64)).toArray := rfl
theorem t9_reads (a0_0 a0_1 a0_2 a0_3 a0_4 a0_5 a0_6 a0_7 a0_8 : Int) (w : World) : Kd.C (Kd.int .i64) (w.alloc (.cells #[.int .i64 a0_0, .int .i64 a0_1, .int .i64 a0_2, .int .i64 a0_3, .int .i64 a0_4, .int .i64 a0_5, .int .i64 a0_6, .int .i64 a0_7, .int .i64 a0_8] 23)) (some ⟨w.heap.size, 0, none⟩) ([a0_0, a0_1, a0_2, a0_3, a0_4, a0_5, a0_6, a0_7, a0_8] : List Int).length [a0_0, a0_1, a0_2, a0_3, a0_4, a0_5, a0_6, a0_7, a0_8] := by
  refine ⟨rfl, by show 9 ≤ _; decide, fun _ => ⟨_, rfl, fun j p hj => ⟨[.int .i64 p], rfl, rfl, fun i u hu => ?_⟩⟩⟩
  have hi : i = 0 := by
    have := (List.getElem?_eq_some_iff.1 hu).1
    simp at this
    exact this
  subst hi
  obtain rfl : Value.int .i64 p = u := by simpa using hu
  have hb := blk_new w (.cells #[.int .i64 a0_0, .int .i64 a0_1, .int .i64 a0_2, .int .i64 a0_3, .int .i64 a0_4, .int .i64 a0_5, .int .i64 a0_6, .int .i64 a0_7, .int .i64 a0_8] 23)
  have e : (Addr.add ⟨w.heap.size, 0, none⟩ (j * 1 + 0)) = ⟨w.heap.size, j, none⟩ := by unfold Addr.add; simp; exact fun h => h.symm
  show World.cell? _ (Addr.add ⟨w.heap.size, 0, none⟩ (j * 1 + 0)) = _
  rw [e]
  refine (blk_cell hb j).trans ?_
  rw [t9_cells]
  simp only [List.getElem?_toArray, List.getElem?_map]
  rw [hj]
  rfl
def impl_IsTable.f (a0_0 a0_1 a0_2 a0_3 a0_4 a0_5 a0_6 a0_7 a0_8 : Int) : Option Bool := some (isT9 [a0_0, a0_1, a0_2, a0_3, a0_4, a0_5, a0_6, a0_7, a0_8])
theorem impl_trits_nine (a0_0 a0_1 a0_2 a0_3 a0_4 a0_5 a0_6 a0_7 a0_8 : Int) : impl_trits.f 10 [a0_0, a0_1, a0_2, a0_3, a0_4, a0_5, a0_6, a0_7, a0_8] = some (isT9 [a0_0, a0_1, a0_2, a0_3, a0_4, a0_5, a0_6, a0_7, a0_8]) := impl_trits_go [a0_0, a0_1, a0_2, a0_3, a0_4, a0_5, a0_6, a0_7, a0_8] (by simp) 9 10 0 rfl (by omega)
set_option maxHeartbeats 8000000 in
set_option maxRecDepth 100000 in
theorem impl_IsTable.calls (a0_0 a0_1 a0_2 a0_3 a0_4 a0_5 a0_6 a0_7 a0_8 : Int) (r : Bool) (w : World) (h : impl_IsTable.f a0_0 a0_1 a0_2 a0_3 a0_4 a0_5 a0_6 a0_7 a0_8 = some r) :
    Calls Try.prog 58 #[.agg #[.int .i64 a0_0, .int .i64 a0_1, .int .i64 a0_2, .int .i64 a0_3, .int .i64 a0_4, .int .i64 a0_5, .int .i64 a0_6, .int .i64 a0_7, .int .i64 a0_8]] w fun e w' => e = .returned (.bool r) ∧ Below w.heap.size w w' := by
  have HR := Aside0.mk (Option.some.inj h)
  clear h
  have HB := Aside0.mk (Below.refl w.heap.size w)
  have HT := Aside0.mk (impl_trits_nine a0_0 a0_1 a0_2 a0_3 a0_4 a0_5 a0_6 a0_7 a0_8)
  have HC := Aside0.mk (t9_reads a0_0 a0_1 a0_2 a0_3 a0_4 a0_5 a0_6 a0_7 a0_8 w)
  go_enter Try.func58, Try.ntmps58
  go_wp2_with (go_at_call 65; (refine (impl_trits.calls 10 (some ⟨w.heap.size, 0, none⟩) 9 [a0_0, a0_1, a0_2, a0_3, a0_4, a0_5, a0_6, a0_7, a0_8] _ _ HC.out (Nat.le_refl 9) HT.out).mono ?_); rintro e w' ⟨rfl, ⟨nd, rfl⟩⟩)
  go_ret
  exact ⟨congrArg (fun b_ => Ending.returned (Value.bool b_)) HR.out, by repeat (first | (with_reducible first | exact HB.out | apply below_alloc | apply pw_below_drewN | apply below_drew1) | exact HB.out)⟩

/-! ### impl_tabled: function 51 -/
def tabF (F : Int → Int → Int) : Nat → Array Value
  | 0 => #[.int .i64 0, .int .i64 0, .int .i64 0, .int .i64 0, .int .i64 0, .int .i64 0, .int .i64 0, .int .i64 0, .int .i64 0]
  | 1 => #[.int .i64 (F (-1) (-1)), .int .i64 0, .int .i64 0, .int .i64 0, .int .i64 0, .int .i64 0, .int .i64 0, .int .i64 0, .int .i64 0]
  | 2 => #[.int .i64 (F (-1) (-1)), .int .i64 (F (-1) 0), .int .i64 0, .int .i64 0, .int .i64 0, .int .i64 0, .int .i64 0, .int .i64 0, .int .i64 0]
  | 3 => #[.int .i64 (F (-1) (-1)), .int .i64 (F (-1) 0), .int .i64 (F (-1) 1), .int .i64 0, .int .i64 0, .int .i64 0, .int .i64 0, .int .i64 0, .int .i64 0]
  | 4 => #[.int .i64 (F (-1) (-1)), .int .i64 (F (-1) 0), .int .i64 (F (-1) 1), .int .i64 (F 0 (-1)), .int .i64 0, .int .i64 0, .int .i64 0, .int .i64 0, .int .i64 0]
  | 5 => #[.int .i64 (F (-1) (-1)), .int .i64 (F (-1) 0), .int .i64 (F (-1) 1), .int .i64 (F 0 (-1)), .int .i64 (F 0 0), .int .i64 0, .int .i64 0, .int .i64 0, .int .i64 0]
  | 6 => #[.int .i64 (F (-1) (-1)), .int .i64 (F (-1) 0), .int .i64 (F (-1) 1), .int .i64 (F 0 (-1)), .int .i64 (F 0 0), .int .i64 (F 0 1), .int .i64 0, .int .i64 0, .int .i64 0]
  | 7 => #[.int .i64 (F (-1) (-1)), .int .i64 (F (-1) 0), .int .i64 (F (-1) 1), .int .i64 (F 0 (-1)), .int .i64 (F 0 0), .int .i64 (F 0 1), .int .i64 (F 1 (-1)), .int .i64 0, .int .i64 0]
  | 8 => #[.int .i64 (F (-1) (-1)), .int .i64 (F (-1) 0), .int .i64 (F (-1) 1), .int .i64 (F 0 (-1)), .int .i64 (F 0 0), .int .i64 (F 0 1), .int .i64 (F 1 (-1)), .int .i64 (F 1 0), .int .i64 0]
  | 9 => #[.int .i64 (F (-1) (-1)), .int .i64 (F (-1) 0), .int .i64 (F (-1) 1), .int .i64 (F 0 (-1)), .int .i64 (F 0 0), .int .i64 (F 0 1), .int .i64 (F 1 (-1)), .int .i64 (F 1 0), .int .i64 (F 1 1)]
  | _ => #[]
set_option maxHeartbeats 8000000 in
set_option maxRecDepth 100000 in
theorem tabled_any (fn : Nat) (fd : Func) (caps : Array Value) (F : Int → Int → Int) (w : World) (hfn : Try.prog.funcs[fn]? = some fd) (hname : (fd.name == "runtime.NumGoroutine") = false) (hbody : fd.body.isSome = true)
    (hf : ∀ (a b : Int) (W : World), Below w.heap.size w W → -1 ≤ a → a ≤ 1 → -1 ≤ b → b ≤ 1 → Calls Try.prog fn (#[.int .i64 a, .int .i64 b] ++ caps) W fun e W2 => e = .returned (.int .i64 (F a b)) ∧ Below W.heap.size W W2) :
    Calls Try.prog 51 #[.func (.func fn) #[] caps] w fun e w' => e = .returned (.agg #[.int .i64 (F (-1) (-1)), .int .i64 (F (-1) 0), .int .i64 (F (-1) 1), .int .i64 (F 0 (-1)), .int .i64 (F 0 0), .int .i64 (F 0 1), .int .i64 (F 1 (-1)), .int .i64 (F 1 0), .int .i64 (F 1 1)]) ∧ Below w.heap.size w w' := by
  have HB := Aside0.mk (Below.refl w.heap.size w)
  have HF := Aside0.mk hf
  have hent := fun (args : Array Value) (W : World) => enters_ (P := Try.prog) hfn hname hbody args W
  clear hf hfn hname hbody
  go_enter Try.func51, Try.ntmps51
  go_wp2
  go_loopg [5] 10 (fun kq v5 w' => ∃ i : Nat, v5 = .int .i64 (i : Int) ∧ Aside0 (True ∧ i ≤ 9 ∧ kq = 10 - i) ∧ Aside0 (w'.heap[w.heap.size]? = some (.cells #[.int .i64 0, .int .i64 0, .int .i64 0, .int .i64 0, .int .i64 0, .int .i64 0, .int .i64 0, .int .i64 0, .int .i64 0] 23 (0, 0))) ∧ Aside0 (w'.heap[w.heap.size + 1]? = some (.cells (tabF F i) 23 (0, 0))) ∧ Aside0 (Below w.heap.size w w'))
  case atStart => exact ⟨0, rfl, ⟨trivial, by omega, rfl⟩, ⟨blk_alloc (blk_new _ _) _⟩, ⟨by have h := blk_new (w.alloc (.cells #[.int .i64 0, .int .i64 0, .int .i64 0, .int .i64 0, .int .i64 0, .int .i64 0, .int .i64 0, .int .i64 0, .int .i64 0] 23)) (.cells #[.int .i64 0, .int .i64 0, .int .i64 0, .int .i64 0, .int .i64 0, .int .i64 0, .int .i64 0, .int .i64 0, .int .i64 0] 23); have e : (w.alloc (.cells #[.int .i64 0, .int .i64 0, .int .i64 0, .int .i64 0, .int .i64 0, .int .i64 0, .int .i64 0, .int .i64 0, .int .i64 0] 23)).heap.size = w.heap.size + 1 := Array.size_push _; rw [e] at h; exact h⟩, ⟨by repeat (first | (with_reducible first | exact HB.out | apply below_alloc | apply pw_below_drewN | apply below_drew1 | refine below_set ?_ (by omega)) | exact HB.out)⟩⟩
  case round =>
    obtain ⟨i, rfl, HA, BK1, BK2, HB⟩ := hrel
    have hi : i = 9 ∨ i = 0 ∨ i = 1 ∨ i = 2 ∨ i = 3 ∨ i = 4 ∨ i = 5 ∨ i = 6 ∨ i = 7 ∨ i = 8 := by have := HA.out.2; omega
    rcases hi with rfl | rfl | rfl | rfl | rfl | rfl | rfl | rfl | rfl | rfl
    · have hs2_0 : wr.cell? ⟨w.heap.size + 1, 0, none⟩ = some (.int .i64 (F (-1) (-1))) := (blk_cell BK2.out 0).trans rfl
      have hs2_1 : wr.cell? ⟨w.heap.size + 1, 1, none⟩ = some (.int .i64 (F (-1) 0)) := (blk_cell BK2.out 1).trans rfl
      have hs2_2 : wr.cell? ⟨w.heap.size + 1, 2, none⟩ = some (.int .i64 (F (-1) 1)) := (blk_cell BK2.out 2).trans rfl
      have hs2_3 : wr.cell? ⟨w.heap.size + 1, 3, none⟩ = some (.int .i64 (F 0 (-1))) := (blk_cell BK2.out 3).trans rfl
      have hs2_4 : wr.cell? ⟨w.heap.size + 1, 4, none⟩ = some (.int .i64 (F 0 0)) := (blk_cell BK2.out 4).trans rfl
      have hs2_5 : wr.cell? ⟨w.heap.size + 1, 5, none⟩ = some (.int .i64 (F 0 1)) := (blk_cell BK2.out 5).trans rfl
      have hs2_6 : wr.cell? ⟨w.heap.size + 1, 6, none⟩ = some (.int .i64 (F 1 (-1))) := (blk_cell BK2.out 6).trans rfl
      have hs2_7 : wr.cell? ⟨w.heap.size + 1, 7, none⟩ = some (.int .i64 (F 1 0)) := (blk_cell BK2.out 7).trans rfl
      have hs2_8 : wr.cell? ⟨w.heap.size + 1, 8, none⟩ = some (.int .i64 (F 1 1)) := (blk_cell BK2.out 8).trans rfl
      have hs1_0 : wr.cell? ⟨w.heap.size, 0, none⟩ = some (.int .i64 0) := (blk_cell BK1.out 0).trans rfl
      have hs1_1 : wr.cell? ⟨w.heap.size, 1, none⟩ = some (.int .i64 0) := (blk_cell BK1.out 1).trans rfl
      have hs1_2 : wr.cell? ⟨w.heap.size, 2, none⟩ = some (.int .i64 0) := (blk_cell BK1.out 2).trans rfl
      have hs1_3 : wr.cell? ⟨w.heap.size, 3, none⟩ = some (.int .i64 0) := (blk_cell BK1.out 3).trans rfl
      have hs1_4 : wr.cell? ⟨w.heap.size, 4, none⟩ = some (.int .i64 0) := (blk_cell BK1.out 4).trans rfl
      have hs1_5 : wr.cell? ⟨w.heap.size, 5, none⟩ = some (.int .i64 0) := (blk_cell BK1.out 5).trans rfl
      have hs1_6 : wr.cell? ⟨w.heap.size, 6, none⟩ = some (.int .i64 0) := (blk_cell BK1.out 6).trans rfl
      have hs1_7 : wr.cell? ⟨w.heap.size, 7, none⟩ = some (.int .i64 0) := (blk_cell BK1.out 7).trans rfl
      have hs1_8 : wr.cell? ⟨w.heap.size, 8, none⟩ = some (.int .i64 0) := (blk_cell BK1.out 8).trans rfl
      have hf1_0 := blk_frozen BK1.out 0
      have hf1_1 := blk_frozen BK1.out 1
      have hf1_2 := blk_frozen BK1.out 2
      have hf1_3 := blk_frozen BK1.out 3
      have hf1_4 := blk_frozen BK1.out 4
      have hf1_5 := blk_frozen BK1.out 5
      have hf1_6 := blk_frozen BK1.out 6
      have hf1_7 := blk_frozen BK1.out 7
      have hf1_8 := blk_frozen BK1.out 8
      go_wp2
      refine bodyPost_ret (v := .agg #[.int .i64 (F (-1) (-1)), .int .i64 (F (-1) 0), .int .i64 (F (-1) 1), .int .i64 (F 0 (-1)), .int .i64 (F 0 0), .int .i64 (F 0 1), .int .i64 (F 1 (-1)), .int .i64 (F 1 0), .int .i64 (F 1 1)]) ?hr rfl ?_; (case hr => refine results_cell_row rfl _ _ w.heap.size 23 #[.int .i64 (F (-1) (-1)), .int .i64 (F (-1) 0), .int .i64 (F (-1) 1), .int .i64 (F 0 (-1)), .int .i64 (F 0 0), .int .i64 (F 0 1), .int .i64 (F 1 (-1)), .int .i64 (F 1 0), .int .i64 (F 1 1)] (0, 0) _ rfl ?hg Try.underlying23 rfl (by kernel_rfl); (case hg => refine blk_put (cs := #[.int .i64 (F (-1) (-1)), .int .i64 (F (-1) 0), .int .i64 (F (-1) 1), .int .i64 (F 0 (-1)), .int .i64 (F 0 0), .int .i64 (F 0 1), .int .i64 (F 1 (-1)), .int .i64 (F 1 0), .int .i64 0]) ?_ 8 (.int .i64 (F 1 1)) rfl; refine blk_put (cs := #[.int .i64 (F (-1) (-1)), .int .i64 (F (-1) 0), .int .i64 (F (-1) 1), .int .i64 (F 0 (-1)), .int .i64 (F 0 0), .int .i64 (F 0 1), .int .i64 (F 1 (-1)), .int .i64 0, .int .i64 0]) ?_ 7 (.int .i64 (F 1 0)) rfl; refine blk_put (cs := #[.int .i64 (F (-1) (-1)), .int .i64 (F (-1) 0), .int .i64 (F (-1) 1), .int .i64 (F 0 (-1)), .int .i64 (F 0 0), .int .i64 (F 0 1), .int .i64 0, .int .i64 0, .int .i64 0]) ?_ 6 (.int .i64 (F 1 (-1))) rfl; refine blk_put (cs := #[.int .i64 (F (-1) (-1)), .int .i64 (F (-1) 0), .int .i64 (F (-1) 1), .int .i64 (F 0 (-1)), .int .i64 (F 0 0), .int .i64 0, .int .i64 0, .int .i64 0, .int .i64 0]) ?_ 5 (.int .i64 (F 0 1)) rfl; refine blk_put (cs := #[.int .i64 (F (-1) (-1)), .int .i64 (F (-1) 0), .int .i64 (F (-1) 1), .int .i64 (F 0 (-1)), .int .i64 0, .int .i64 0, .int .i64 0, .int .i64 0, .int .i64 0]) ?_ 4 (.int .i64 (F 0 0)) rfl; refine blk_put (cs := #[.int .i64 (F (-1) (-1)), .int .i64 (F (-1) 0), .int .i64 (F (-1) 1), .int .i64 0, .int .i64 0, .int .i64 0, .int .i64 0, .int .i64 0, .int .i64 0]) ?_ 3 (.int .i64 (F 0 (-1))) rfl; refine blk_put (cs := #[.int .i64 (F (-1) (-1)), .int .i64 (F (-1) 0), .int .i64 0, .int .i64 0, .int .i64 0, .int .i64 0, .int .i64 0, .int .i64 0, .int .i64 0]) ?_ 2 (.int .i64 (F (-1) 1)) rfl; refine blk_put (cs := #[.int .i64 (F (-1) (-1)), .int .i64 0, .int .i64 0, .int .i64 0, .int .i64 0, .int .i64 0, .int .i64 0, .int .i64 0, .int .i64 0]) ?_ 1 (.int .i64 (F (-1) 0)) rfl; refine blk_put (cs := #[.int .i64 0, .int .i64 0, .int .i64 0, .int .i64 0, .int .i64 0, .int .i64 0, .int .i64 0, .int .i64 0, .int .i64 0]) ?_ 0 (.int .i64 (F (-1) (-1))) rfl; exact BK1.out))
      exact ⟨rfl, below_set (below_set (below_set (below_set (below_set (below_set (below_set (below_set (below_set (HB.out) (Nat.le_refl _)) (Nat.le_refl _)) (Nat.le_refl _)) (Nat.le_refl _)) (Nat.le_refl _)) (Nat.le_refl _)) (Nat.le_refl _)) (Nat.le_refl _)) (Nat.le_refl _)⟩
    · go_wp2_with (refine (HF.out (-1) (-1) _ (by repeat (first | (with_reducible first | exact HB.out | apply below_alloc | apply pw_below_drewN | apply below_drew1) | exact HB.out)) (by omega) (by omega) (by omega) (by omega)).mono ?_; rintro e w3 ⟨rfl, hb⟩; have BK3 := Aside0.mk (show w3.heap[w.heap.size]? = some (.cells #[.int .i64 0, .int .i64 0, .int .i64 0, .int .i64 0, .int .i64 0, .int .i64 0, .int .i64 0, .int .i64 0, .int .i64 0] 23 (0, 0)) from blk_below (bA BK1.out) hb); have BK4 := Aside0.mk (show w3.heap[w.heap.size + 1]? = some (.cells (tabF F 0) 23 (0, 0)) from blk_below (bA BK2.out) hb); have HB3 := Aside0.mk (show Below w.heap.size w w3 from below_step (bB HB.out) hb); have hs4 : w3.cell? ⟨w.heap.size + 1, 0, none⟩ = some (.int .i64 0) := (blk_cell BK4.out 0).trans rfl; have hf4 := blk_frozen BK4.out 0; clear hb)
      go_roundg (gk - 1)
      case measure => have := HA.out.2; omega
      case rel => exact ⟨1, rfl, ⟨trivial, by omega, by have := HA.out.2; omega⟩, ⟨blk_far BK3.out (by show w.heap.size ≠ w.heap.size + 1; omega) _⟩, ⟨blk_put BK4.out 0 (.int .i64 (F (-1) (-1))) rfl⟩, ⟨below_set HB3.out (Nat.le_succ _)⟩⟩
    · go_wp2_with (refine (HF.out (-1) 0 _ (by repeat (first | (with_reducible first | exact HB.out | apply below_alloc | apply pw_below_drewN | apply below_drew1) | exact HB.out)) (by omega) (by omega) (by omega) (by omega)).mono ?_; rintro e w3 ⟨rfl, hb⟩; have BK3 := Aside0.mk (show w3.heap[w.heap.size]? = some (.cells #[.int .i64 0, .int .i64 0, .int .i64 0, .int .i64 0, .int .i64 0, .int .i64 0, .int .i64 0, .int .i64 0, .int .i64 0] 23 (0, 0)) from blk_below (bA BK1.out) hb); have BK4 := Aside0.mk (show w3.heap[w.heap.size + 1]? = some (.cells (tabF F 1) 23 (0, 0)) from blk_below (bA BK2.out) hb); have HB3 := Aside0.mk (show Below w.heap.size w w3 from below_step (bB HB.out) hb); have hs4 : w3.cell? ⟨w.heap.size + 1, 1, none⟩ = some (.int .i64 0) := (blk_cell BK4.out 1).trans rfl; have hf4 := blk_frozen BK4.out 1; clear hb)
      go_roundg (gk - 1)
      case measure => have := HA.out.2; omega
      case rel => exact ⟨2, rfl, ⟨trivial, by omega, by have := HA.out.2; omega⟩, ⟨blk_far BK3.out (by show w.heap.size ≠ w.heap.size + 1; omega) _⟩, ⟨blk_put BK4.out 1 (.int .i64 (F (-1) 0)) rfl⟩, ⟨below_set HB3.out (Nat.le_succ _)⟩⟩
    · go_wp2_with (refine (HF.out (-1) 1 _ (by repeat (first | (with_reducible first | exact HB.out | apply below_alloc | apply pw_below_drewN | apply below_drew1) | exact HB.out)) (by omega) (by omega) (by omega) (by omega)).mono ?_; rintro e w3 ⟨rfl, hb⟩; have BK3 := Aside0.mk (show w3.heap[w.heap.size]? = some (.cells #[.int .i64 0, .int .i64 0, .int .i64 0, .int .i64 0, .int .i64 0, .int .i64 0, .int .i64 0, .int .i64 0, .int .i64 0] 23 (0, 0)) from blk_below (bA BK1.out) hb); have BK4 := Aside0.mk (show w3.heap[w.heap.size + 1]? = some (.cells (tabF F 2) 23 (0, 0)) from blk_below (bA BK2.out) hb); have HB3 := Aside0.mk (show Below w.heap.size w w3 from below_step (bB HB.out) hb); have hs4 : w3.cell? ⟨w.heap.size + 1, 2, none⟩ = some (.int .i64 0) := (blk_cell BK4.out 2).trans rfl; have hf4 := blk_frozen BK4.out 2; clear hb)
      go_roundg (gk - 1)
      case measure => have := HA.out.2; omega
      case rel => exact ⟨3, rfl, ⟨trivial, by omega, by have := HA.out.2; omega⟩, ⟨blk_far BK3.out (by show w.heap.size ≠ w.heap.size + 1; omega) _⟩, ⟨blk_put BK4.out 2 (.int .i64 (F (-1) 1)) rfl⟩, ⟨below_set HB3.out (Nat.le_succ _)⟩⟩
    · go_wp2_with (refine (HF.out 0 (-1) _ (by repeat (first | (with_reducible first | exact HB.out | apply below_alloc | apply pw_below_drewN | apply below_drew1) | exact HB.out)) (by omega) (by omega) (by omega) (by omega)).mono ?_; rintro e w3 ⟨rfl, hb⟩; have BK3 := Aside0.mk (show w3.heap[w.heap.size]? = some (.cells #[.int .i64 0, .int .i64 0, .int .i64 0, .int .i64 0, .int .i64 0, .int .i64 0, .int .i64 0, .int .i64 0, .int .i64 0] 23 (0, 0)) from blk_below (bA BK1.out) hb); have BK4 := Aside0.mk (show w3.heap[w.heap.size + 1]? = some (.cells (tabF F 3) 23 (0, 0)) from blk_below (bA BK2.out) hb); have HB3 := Aside0.mk (show Below w.heap.size w w3 from below_step (bB HB.out) hb); have hs4 : w3.cell? ⟨w.heap.size + 1, 3, none⟩ = some (.int .i64 0) := (blk_cell BK4.out 3).trans rfl; have hf4 := blk_frozen BK4.out 3; clear hb)
      go_roundg (gk - 1)
      case measure => have := HA.out.2; omega
      case rel => exact ⟨4, rfl, ⟨trivial, by omega, by have := HA.out.2; omega⟩, ⟨blk_far BK3.out (by show w.heap.size ≠ w.heap.size + 1; omega) _⟩, ⟨blk_put BK4.out 3 (.int .i64 (F 0 (-1))) rfl⟩, ⟨below_set HB3.out (Nat.le_succ _)⟩⟩
    · go_wp2_with (refine (HF.out 0 0 _ (by repeat (first | (with_reducible first | exact HB.out | apply below_alloc | apply pw_below_drewN | apply below_drew1) | exact HB.out)) (by omega) (by omega) (by omega) (by omega)).mono ?_; rintro e w3 ⟨rfl, hb⟩; have BK3 := Aside0.mk (show w3.heap[w.heap.size]? = some (.cells #[.int .i64 0, .int .i64 0, .int .i64 0, .int .i64 0, .int .i64 0, .int .i64 0, .int .i64 0, .int .i64 0, .int .i64 0] 23 (0, 0)) from blk_below (bA BK1.out) hb); have BK4 := Aside0.mk (show w3.heap[w.heap.size + 1]? = some (.cells (tabF F 4) 23 (0, 0)) from blk_below (bA BK2.out) hb); have HB3 := Aside0.mk (show Below w.heap.size w w3 from below_step (bB HB.out) hb); have hs4 : w3.cell? ⟨w.heap.size + 1, 4, none⟩ = some (.int .i64 0) := (blk_cell BK4.out 4).trans rfl; have hf4 := blk_frozen BK4.out 4; clear hb)
      go_roundg (gk - 1)
      case measure => have := HA.out.2; omega
      case rel => exact ⟨5, rfl, ⟨trivial, by omega, by have := HA.out.2; omega⟩, ⟨blk_far BK3.out (by show w.heap.size ≠ w.heap.size + 1; omega) _⟩, ⟨blk_put BK4.out 4 (.int .i64 (F 0 0)) rfl⟩, ⟨below_set HB3.out (Nat.le_succ _)⟩⟩
    · go_wp2_with (refine (HF.out 0 1 _ (by repeat (first | (with_reducible first | exact HB.out | apply below_alloc | apply pw_below_drewN | apply below_drew1) | exact HB.out)) (by omega) (by omega) (by omega) (by omega)).mono ?_; rintro e w3 ⟨rfl, hb⟩; have BK3 := Aside0.mk (show w3.heap[w.heap.size]? = some (.cells #[.int .i64 0, .int .i64 0, .int .i64 0, .int .i64 0, .int .i64 0, .int .i64 0, .int .i64 0, .int .i64 0, .int .i64 0] 23 (0, 0)) from blk_below (bA BK1.out) hb); have BK4 := Aside0.mk (show w3.heap[w.heap.size + 1]? = some (.cells (tabF F 5) 23 (0, 0)) from blk_below (bA BK2.out) hb); have HB3 := Aside0.mk (show Below w.heap.size w w3 from below_step (bB HB.out) hb); have hs4 : w3.cell? ⟨w.heap.size + 1, 5, none⟩ = some (.int .i64 0) := (blk_cell BK4.out 5).trans rfl; have hf4 := blk_frozen BK4.out 5; clear hb)
      go_roundg (gk - 1)
      case measure => have := HA.out.2; omega
      case rel => exact ⟨6, rfl, ⟨trivial, by omega, by have := HA.out.2; omega⟩, ⟨blk_far BK3.out (by show w.heap.size ≠ w.heap.size + 1; omega) _⟩, ⟨blk_put BK4.out 5 (.int .i64 (F 0 1)) rfl⟩, ⟨below_set HB3.out (Nat.le_succ _)⟩⟩
    · go_wp2_with (refine (HF.out 1 (-1) _ (by repeat (first | (with_reducible first | exact HB.out | apply below_alloc | apply pw_below_drewN | apply below_drew1) | exact HB.out)) (by omega) (by omega) (by omega) (by omega)).mono ?_; rintro e w3 ⟨rfl, hb⟩; have BK3 := Aside0.mk (show w3.heap[w.heap.size]? = some (.cells #[.int .i64 0, .int .i64 0, .int .i64 0, .int .i64 0, .int .i64 0, .int .i64 0, .int .i64 0, .int .i64 0, .int .i64 0] 23 (0, 0)) from blk_below (bA BK1.out) hb); have BK4 := Aside0.mk (show w3.heap[w.heap.size + 1]? = some (.cells (tabF F 6) 23 (0, 0)) from blk_below (bA BK2.out) hb); have HB3 := Aside0.mk (show Below w.heap.size w w3 from below_step (bB HB.out) hb); have hs4 : w3.cell? ⟨w.heap.size + 1, 6, none⟩ = some (.int .i64 0) := (blk_cell BK4.out 6).trans rfl; have hf4 := blk_frozen BK4.out 6; clear hb)
      go_roundg (gk - 1)
      case measure => have := HA.out.2; omega
      case rel => exact ⟨7, rfl, ⟨trivial, by omega, by have := HA.out.2; omega⟩, ⟨blk_far BK3.out (by show w.heap.size ≠ w.heap.size + 1; omega) _⟩, ⟨blk_put BK4.out 6 (.int .i64 (F 1 (-1))) rfl⟩, ⟨below_set HB3.out (Nat.le_succ _)⟩⟩
    · go_wp2_with (refine (HF.out 1 0 _ (by repeat (first | (with_reducible first | exact HB.out | apply below_alloc | apply pw_below_drewN | apply below_drew1) | exact HB.out)) (by omega) (by omega) (by omega) (by omega)).mono ?_; rintro e w3 ⟨rfl, hb⟩; have BK3 := Aside0.mk (show w3.heap[w.heap.size]? = some (.cells #[.int .i64 0, .int .i64 0, .int .i64 0, .int .i64 0, .int .i64 0, .int .i64 0, .int .i64 0, .int .i64 0, .int .i64 0] 23 (0, 0)) from blk_below (bA BK1.out) hb); have BK4 := Aside0.mk (show w3.heap[w.heap.size + 1]? = some (.cells (tabF F 7) 23 (0, 0)) from blk_below (bA BK2.out) hb); have HB3 := Aside0.mk (show Below w.heap.size w w3 from below_step (bB HB.out) hb); have hs4 : w3.cell? ⟨w.heap.size + 1, 7, none⟩ = some (.int .i64 0) := (blk_cell BK4.out 7).trans rfl; have hf4 := blk_frozen BK4.out 7; clear hb)
      go_roundg (gk - 1)
      case measure => have := HA.out.2; omega
      case rel => exact ⟨8, rfl, ⟨trivial, by omega, by have := HA.out.2; omega⟩, ⟨blk_far BK3.out (by show w.heap.size ≠ w.heap.size + 1; omega) _⟩, ⟨blk_put BK4.out 7 (.int .i64 (F 1 0)) rfl⟩, ⟨below_set HB3.out (Nat.le_succ _)⟩⟩
    · go_wp2_with (refine (HF.out 1 1 _ (by repeat (first | (with_reducible first | exact HB.out | apply below_alloc | apply pw_below_drewN | apply below_drew1) | exact HB.out)) (by omega) (by omega) (by omega) (by omega)).mono ?_; rintro e w3 ⟨rfl, hb⟩; have BK3 := Aside0.mk (show w3.heap[w.heap.size]? = some (.cells #[.int .i64 0, .int .i64 0, .int .i64 0, .int .i64 0, .int .i64 0, .int .i64 0, .int .i64 0, .int .i64 0, .int .i64 0] 23 (0, 0)) from blk_below (bA BK1.out) hb); have BK4 := Aside0.mk (show w3.heap[w.heap.size + 1]? = some (.cells (tabF F 8) 23 (0, 0)) from blk_below (bA BK2.out) hb); have HB3 := Aside0.mk (show Below w.heap.size w w3 from below_step (bB HB.out) hb); have hs4 : w3.cell? ⟨w.heap.size + 1, 8, none⟩ = some (.int .i64 0) := (blk_cell BK4.out 8).trans rfl; have hf4 := blk_frozen BK4.out 8; clear hb)
      go_roundg (gk - 1)
      case measure => have := HA.out.2; omega
      case rel => exact ⟨9, rfl, ⟨trivial, by omega, by have := HA.out.2; omega⟩, ⟨blk_far BK3.out (by show w.heap.size ≠ w.heap.size + 1; omega) _⟩, ⟨blk_put BK4.out 8 (.int .i64 (F 1 1)) rfl⟩, ⟨below_set HB3.out (Nat.le_succ _)⟩⟩

/-! ### impl_LiteralTable: function 15 -/
def litv (x a : Int) : Int := if a = x then 1 else -1
theorem lit_clo (a b x : Int) (g : Nat) (w : World) (hc : w.cell? ⟨g, 0, none⟩ = some (.int .i64 x)) :
    Calls Try.prog 52 #[.int .i64 a, .int .i64 b, .pointer (some ⟨g, 0, none⟩)] w fun e w' => e = .returned (.int .i64 (litv x a)) ∧ Below w.heap.size w w' := by
  have HB := Aside0.mk (Below.refl w.heap.size w)
  by_cases h : a = x
  · have e1 : (a == x) = true := by simp [h]
    have E := Aside0.mk (show litv x a = 1 from if_pos h)
    clear h
    go_enter Try.func52, Try.ntmps52
    go_wp2
    go_ret
    exact ⟨congrArg (fun b_ => Ending.returned (Value.int .i64 b_)) E.out.symm, by repeat (first | (with_reducible first | exact HB.out | apply below_alloc | apply pw_below_drewN | apply below_drew1 | refine below_set ?_ (by omega)) | exact HB.out)⟩
  · have e1 : (a == x) = false := by simp [h]
    have E := Aside0.mk (show litv x a = -1 from if_neg h)
    clear h
    go_enter Try.func52, Try.ntmps52
    go_wp2
    go_ret
    exact ⟨congrArg (fun b_ => Ending.returned (Value.int .i64 b_)) E.out.symm, by repeat (first | (with_reducible first | exact HB.out | apply below_alloc | apply pw_below_drewN | apply below_drew1 | refine below_set ?_ (by omega)) | exact HB.out)⟩
def impl_LiteralTable.f (a0 : Int) : Option (Int × Int × Int × Int × Int × Int × Int × Int × Int) := if trB a0 = true then some ((litv a0 (-1)), (litv a0 (-1)), (litv a0 (-1)), (litv a0 0), (litv a0 0), (litv a0 0), (litv a0 1), (litv a0 1), (litv a0 1)) else some (0, 0, 0, 0, 0, 0, 0, 0, 0)
set_option maxHeartbeats 8000000 in
set_option maxRecDepth 100000 in
theorem impl_LiteralTable.calls (a0 : Int) (r1 r2 r3 r4 r5 r6 r7 r8 r9 : Int) (w : World) (h : impl_LiteralTable.f a0 = some (r1, r2, r3, r4, r5, r6, r7, r8, r9)) :
    Calls Try.prog 15 #[.int .i64 a0] w fun e w' => e = .returned (.agg #[.int .i64 r1, .int .i64 r2, .int .i64 r3, .int .i64 r4, .int .i64 r5, .int .i64 r6, .int .i64 r7, .int .i64 r8, .int .i64 r9]) ∧ Below w.heap.size w w' := by
  unfold impl_LiteralTable.f at h
  have HB := Aside0.mk (Below.refl w.heap.size w)
  cases c : trB a0 with
  | true =>
    rw [c, if_pos rfl] at h
    have h2 := Option.some.inj h
    simp only [Prod.mk.injEq] at h2
    obtain ⟨rfl, rfl, rfl, rfl, rfl, rfl, rfl, rfl, rfl⟩ := h2
    have HT := Aside0.mk ((impl_trB a0).trans (congrArg some c))
    clear h c
    go_enter Try.func15, Try.ntmps15
    go_wp2_with (first | (go_at_call 50; (with_reducible refine (impl_IsTrit.calls a0 true _ HT.out).mono ?_); rintro e w' ⟨rfl, ⟨nd, rfl⟩⟩) | (go_at_call 51; (refine (tabled_any 52 _ #[.pointer (some ⟨w.heap.size, 0, none⟩)] (fun a _ => litv a0 a) _ Try.func52 rfl (by kernel_rfl) ?s1).mono ?_); (case s1 => intro a b W hW _ _ _ _; refine lit_clo a b a0 _ W ((blk_cell (cs := #[.int .i64 a0]) (t := 3) (blk_below ?q1 hW) 0).trans rfl); (case q1 => repeat (first | exact blk_new _ _ | (with_reducible refine blk_drewN ?_ _) | (with_reducible refine blk_drew ?_) | refine blk_alloc ?_ _))); rintro e w2 ⟨rfl, hb⟩; have h_ := blk_new (w.alloc (.cells #[.int .i64 a0] 3)) (.cells #[.int .i64 0, .int .i64 0, .int .i64 0, .int .i64 0, .int .i64 0, .int .i64 0, .int .i64 0, .int .i64 0, .int .i64 0] 23); have e_ : (w.alloc (.cells #[.int .i64 a0] 3)).heap.size = w.heap.size + 1 := Array.size_push _; rw [e_] at h_; have BKr := Aside0.mk (show w2.heap[w.heap.size + 1]? = some (.cells #[.int .i64 0, .int .i64 0, .int .i64 0, .int .i64 0, .int .i64 0, .int .i64 0, .int .i64 0, .int .i64 0, .int .i64 0] 23 (0, 0)) from blk_below (blk_drewN h_ _) hb); have HB2 := Aside0.mk (below_step (show Below w.heap.size w _ from by repeat (first | (with_reducible first | exact HB.out | apply below_alloc | apply pw_below_drewN | apply below_drew1) | exact HB.out)) hb); have hs0 : w2.cell? ⟨w.heap.size + 1, 0, none⟩ = some (.int .i64 0) := (blk_cell BKr.out 0).trans rfl; have hf0 := blk_frozen BKr.out 0; have hs1 : w2.cell? ⟨w.heap.size + 1, 1, none⟩ = some (.int .i64 0) := (blk_cell BKr.out 1).trans rfl; have hf1 := blk_frozen BKr.out 1; have hs2 : w2.cell? ⟨w.heap.size + 1, 2, none⟩ = some (.int .i64 0) := (blk_cell BKr.out 2).trans rfl; have hf2 := blk_frozen BKr.out 2; have hs3 : w2.cell? ⟨w.heap.size + 1, 3, none⟩ = some (.int .i64 0) := (blk_cell BKr.out 3).trans rfl; have hf3 := blk_frozen BKr.out 3; have hs4 : w2.cell? ⟨w.heap.size + 1, 4, none⟩ = some (.int .i64 0) := (blk_cell BKr.out 4).trans rfl; have hf4 := blk_frozen BKr.out 4; have hs5 : w2.cell? ⟨w.heap.size + 1, 5, none⟩ = some (.int .i64 0) := (blk_cell BKr.out 5).trans rfl; have hf5 := blk_frozen BKr.out 5; have hs6 : w2.cell? ⟨w.heap.size + 1, 6, none⟩ = some (.int .i64 0) := (blk_cell BKr.out 6).trans rfl; have hf6 := blk_frozen BKr.out 6; have hs7 : w2.cell? ⟨w.heap.size + 1, 7, none⟩ = some (.int .i64 0) := (blk_cell BKr.out 7).trans rfl; have hf7 := blk_frozen BKr.out 7; have hs8 : w2.cell? ⟨w.heap.size + 1, 8, none⟩ = some (.int .i64 0) := (blk_cell BKr.out 8).trans rfl; have hf8 := blk_frozen BKr.out 8; clear hb h_ e_))
    refine bodyPost_ret (v := .agg #[.int .i64 (litv a0 (-1)), .int .i64 (litv a0 (-1)), .int .i64 (litv a0 (-1)), .int .i64 (litv a0 0), .int .i64 (litv a0 0), .int .i64 (litv a0 0), .int .i64 (litv a0 1), .int .i64 (litv a0 1), .int .i64 (litv a0 1)]) ?hr1 rfl ?_; (case hr1 => refine results_cell_row rfl _ _ (w.heap.size + 1) 23 #[.int .i64 (litv a0 (-1)), .int .i64 (litv a0 (-1)), .int .i64 (litv a0 (-1)), .int .i64 (litv a0 0), .int .i64 (litv a0 0), .int .i64 (litv a0 0), .int .i64 (litv a0 1), .int .i64 (litv a0 1), .int .i64 (litv a0 1)] (0, 0) _ rfl ?hg1 Try.underlying23 rfl (by kernel_rfl); (case hg1 => refine blk_put (cs := #[.int .i64 (litv a0 (-1)), .int .i64 (litv a0 (-1)), .int .i64 (litv a0 (-1)), .int .i64 (litv a0 0), .int .i64 (litv a0 0), .int .i64 (litv a0 0), .int .i64 (litv a0 1), .int .i64 (litv a0 1), .int .i64 0]) ?_ 8 (.int .i64 (litv a0 1)) rfl; refine blk_put (cs := #[.int .i64 (litv a0 (-1)), .int .i64 (litv a0 (-1)), .int .i64 (litv a0 (-1)), .int .i64 (litv a0 0), .int .i64 (litv a0 0), .int .i64 (litv a0 0), .int .i64 (litv a0 1), .int .i64 0, .int .i64 0]) ?_ 7 (.int .i64 (litv a0 1)) rfl; refine blk_put (cs := #[.int .i64 (litv a0 (-1)), .int .i64 (litv a0 (-1)), .int .i64 (litv a0 (-1)), .int .i64 (litv a0 0), .int .i64 (litv a0 0), .int .i64 (litv a0 0), .int .i64 0, .int .i64 0, .int .i64 0]) ?_ 6 (.int .i64 (litv a0 1)) rfl; refine blk_put (cs := #[.int .i64 (litv a0 (-1)), .int .i64 (litv a0 (-1)), .int .i64 (litv a0 (-1)), .int .i64 (litv a0 0), .int .i64 (litv a0 0), .int .i64 0, .int .i64 0, .int .i64 0, .int .i64 0]) ?_ 5 (.int .i64 (litv a0 0)) rfl; refine blk_put (cs := #[.int .i64 (litv a0 (-1)), .int .i64 (litv a0 (-1)), .int .i64 (litv a0 (-1)), .int .i64 (litv a0 0), .int .i64 0, .int .i64 0, .int .i64 0, .int .i64 0, .int .i64 0]) ?_ 4 (.int .i64 (litv a0 0)) rfl; refine blk_put (cs := #[.int .i64 (litv a0 (-1)), .int .i64 (litv a0 (-1)), .int .i64 (litv a0 (-1)), .int .i64 0, .int .i64 0, .int .i64 0, .int .i64 0, .int .i64 0, .int .i64 0]) ?_ 3 (.int .i64 (litv a0 0)) rfl; refine blk_put (cs := #[.int .i64 (litv a0 (-1)), .int .i64 (litv a0 (-1)), .int .i64 0, .int .i64 0, .int .i64 0, .int .i64 0, .int .i64 0, .int .i64 0, .int .i64 0]) ?_ 2 (.int .i64 (litv a0 (-1))) rfl; refine blk_put (cs := #[.int .i64 (litv a0 (-1)), .int .i64 0, .int .i64 0, .int .i64 0, .int .i64 0, .int .i64 0, .int .i64 0, .int .i64 0, .int .i64 0]) ?_ 1 (.int .i64 (litv a0 (-1))) rfl; refine blk_put (cs := #[.int .i64 0, .int .i64 0, .int .i64 0, .int .i64 0, .int .i64 0, .int .i64 0, .int .i64 0, .int .i64 0, .int .i64 0]) ?_ 0 (.int .i64 (litv a0 (-1))) rfl; exact BKr.out))
    exact ⟨rfl, below_set (below_set (below_set (below_set (below_set (below_set (below_set (below_set (below_set (HB2.out) (Nat.le_succ _)) (Nat.le_succ _)) (Nat.le_succ _)) (Nat.le_succ _)) (Nat.le_succ _)) (Nat.le_succ _)) (Nat.le_succ _)) (Nat.le_succ _)) (Nat.le_succ _)⟩
  | false =>
    rw [c, if_neg (by decide)] at h
    have h2 := Option.some.inj h
    simp only [Prod.mk.injEq] at h2
    obtain ⟨rfl, rfl, rfl, rfl, rfl, rfl, rfl, rfl, rfl⟩ := h2
    have HT := Aside0.mk ((impl_trB a0).trans (congrArg some c))
    clear h c
    go_enter Try.func15, Try.ntmps15
    go_wp2_with (go_at_call 50; (with_reducible refine (impl_IsTrit.calls a0 false _ HT.out).mono ?_); rintro e w' ⟨rfl, ⟨nd, rfl⟩⟩)
    have h_ := blk_new (w.alloc (.cells #[.int .i64 a0] 3)) (.cells #[.int .i64 0, .int .i64 0, .int .i64 0, .int .i64 0, .int .i64 0, .int .i64 0, .int .i64 0, .int .i64 0, .int .i64 0] 23); have e_ : (w.alloc (.cells #[.int .i64 a0] 3)).heap.size = w.heap.size + 1 := Array.size_push _; rw [e_] at h_; have BK0 := h_
    refine bodyPost_ret (v := .agg #[.int .i64 0, .int .i64 0, .int .i64 0, .int .i64 0, .int .i64 0, .int .i64 0, .int .i64 0, .int .i64 0, .int .i64 0]) ?hr rfl ?_; (case hr => refine results_cell_row rfl _ _ (w.heap.size + 1) 23 #[.int .i64 0, .int .i64 0, .int .i64 0, .int .i64 0, .int .i64 0, .int .i64 0, .int .i64 0, .int .i64 0, .int .i64 0] (0, 0) _ rfl ?hg Try.underlying23 rfl (by kernel_rfl); (case hg => refine blk_put (cs := #[.int .i64 0, .int .i64 0, .int .i64 0, .int .i64 0, .int .i64 0, .int .i64 0, .int .i64 0, .int .i64 0, .int .i64 0]) ?_ 8 (.int .i64 0) rfl; refine blk_put (cs := #[.int .i64 0, .int .i64 0, .int .i64 0, .int .i64 0, .int .i64 0, .int .i64 0, .int .i64 0, .int .i64 0, .int .i64 0]) ?_ 7 (.int .i64 0) rfl; refine blk_put (cs := #[.int .i64 0, .int .i64 0, .int .i64 0, .int .i64 0, .int .i64 0, .int .i64 0, .int .i64 0, .int .i64 0, .int .i64 0]) ?_ 6 (.int .i64 0) rfl; refine blk_put (cs := #[.int .i64 0, .int .i64 0, .int .i64 0, .int .i64 0, .int .i64 0, .int .i64 0, .int .i64 0, .int .i64 0, .int .i64 0]) ?_ 5 (.int .i64 0) rfl; refine blk_put (cs := #[.int .i64 0, .int .i64 0, .int .i64 0, .int .i64 0, .int .i64 0, .int .i64 0, .int .i64 0, .int .i64 0, .int .i64 0]) ?_ 4 (.int .i64 0) rfl; refine blk_put (cs := #[.int .i64 0, .int .i64 0, .int .i64 0, .int .i64 0, .int .i64 0, .int .i64 0, .int .i64 0, .int .i64 0, .int .i64 0]) ?_ 3 (.int .i64 0) rfl; refine blk_put (cs := #[.int .i64 0, .int .i64 0, .int .i64 0, .int .i64 0, .int .i64 0, .int .i64 0, .int .i64 0, .int .i64 0, .int .i64 0]) ?_ 2 (.int .i64 0) rfl; refine blk_put (cs := #[.int .i64 0, .int .i64 0, .int .i64 0, .int .i64 0, .int .i64 0, .int .i64 0, .int .i64 0, .int .i64 0, .int .i64 0]) ?_ 1 (.int .i64 0) rfl; refine blk_put (cs := #[.int .i64 0, .int .i64 0, .int .i64 0, .int .i64 0, .int .i64 0, .int .i64 0, .int .i64 0, .int .i64 0, .int .i64 0]) ?_ 0 (.int .i64 0) rfl; exact blk_drewN BK0 _))
    exact ⟨rfl, below_set (below_set (below_set (below_set (below_set (below_set (below_set (below_set (below_set ((show Below w.heap.size w _ from by repeat (first | (with_reducible first | exact HB.out | apply below_alloc | apply pw_below_drewN | apply below_drew1) | exact HB.out))) (Nat.le_succ _)) (Nat.le_succ _)) (Nat.le_succ _)) (Nat.le_succ _)) (Nat.le_succ _)) (Nat.le_succ _)) (Nat.le_succ _)) (Nat.le_succ _)) (Nat.le_succ _)⟩

/-! ### laws_at: function 24 -/
def laws_at.f (l0 : List Int) (a1 : Int) : Option (Int) := if a1 < (l0.length : Int) then (if 0 ≤ a1 then (some (wrap64 (rd l0 a1))) else (none)) else (some (Int.tmod (wrap64 ((wrap64 (a1 * 37)) + (wrap64 ((l0.length : Int) * 11)))) 256))
set_option maxHeartbeats 8000000 in
set_option maxRecDepth 100000 in
theorem laws_at.calls (A0 : Option Addr) (c0 : Nat) (l0 : List Int) (a1 : Int) (r : Int) (w : World) (hr0 : Kd.C (Kd.int .u8) w A0 l0.length l0) (hc0 : l0.length ≤ c0) (h : laws_at.f l0 a1 = some r) :
    Calls Try.prog 24 #[.slice A0 l0.length c0, .int .i64 a1] w fun e w' => e = .returned (.int .i64 r) ∧ Drawn0 w w' := by
  have HR0 := Aside0.mk hr0
  have HC0 := Aside0.mk hc0
  clear hr0 hc0
  have H : (if a1 < (l0.length : Int) then (if 0 ≤ a1 then (some (wrap64 (rd l0 a1))) else (none)) else (some (Int.tmod (wrap64 ((wrap64 (a1 * 37)) + (wrap64 ((l0.length : Int) * 11)))) 256))) = some r := h
  clear h
  by_cases c3 : a1 < (l0.length : Int)
  · rw [if_pos c3] at H
    have c3b0 : decide (a1 < (l0.length : Int)) = true := decide_eq_true c3
    clear c3
    by_cases c4 : 0 ≤ a1
    · rw [if_pos c4] at H
      have c4b0 : decide (0 ≤ a1) = true := decide_eq_true c4
      clear c4
      obtain rfl := Option.some.inj H
      have p101 : 0 ≤ (a1 : Int) := of_decide_eq_true (by first | (with_reducible assumption) | assumption)
      have q101 : a1 < (l0.length : Int) := of_decide_eq_true (by first | (with_reducible assumption) | assumption)
      obtain ⟨ad101, e101, hx101_0⟩ := Kd.at_int HR0.out a1 p101 q101
      cases e101
      replace p101 := eq_true p101
      replace q101 := eq_true q101
      go_enter Try.func24, Try.ntmps24
      go_wp2
      go_ret
      exact ⟨by first | rfl | (simp; done) | (simp [*]; done), by repeat (first | exact Drawn0.refl _ | apply Drawn0.step)⟩
    · rw [if_neg c4] at H
      exact absurd H (by simp)
  · rw [if_neg c3] at H
    have c3b0 : decide (a1 < (l0.length : Int)) = false := decide_eq_false c3
    clear c3
    obtain rfl := Option.some.inj H
    go_enter Try.func24, Try.ntmps24
    go_wp2
    go_ret
    exact ⟨by first | rfl | (simp; done) | (simp [*]; done), by repeat (first | exact Drawn0.refl _ | apply Drawn0.step)⟩

/-! ### spec_l1Two: function 104 -/
def spec_l1Two.f (a0 : Int) (a1 : Int) : Option (Bool) := (spec_IsTrit.f a0).bind fun t101 => (if t101 = true then ((spec_IsTrit.f a1).bind fun t102 => (some t102)) else (some false))
set_option maxHeartbeats 8000000 in
set_option maxRecDepth 100000 in
theorem spec_l1Two.calls (a0 : Int) (a1 : Int) (r : Bool) (w : World) (h : spec_l1Two.f a0 a1 = some r) :
    Calls Try.prog 104 #[.int .i64 a0, .int .i64 a1] w fun e w' => e = .returned (.bool r) ∧ Drawn0 w w' := by
  have H : ((spec_IsTrit.f a0).bind fun t101 => (if t101 = true then ((spec_IsTrit.f a1).bind fun t102 => (some t102)) else (some false))) = some r := h
  clear h
  replace H := Option.bind_eq_some_iff.mp H
  obtain ⟨t101, A30, H⟩ := H
  replace H : (if t101 = true then ((spec_IsTrit.f a1).bind fun t102 => (some t102)) else (some false)) = some r := H
  have A3 := Aside0.mk A30
  clear A30
  by_cases c4 : t101 = true
  · subst c4
    have H1 : ((spec_IsTrit.f a1).bind fun t102 => (some t102)) = some r := by rw [if_pos rfl] at H; exact H
    clear H
    have H := H1
    clear H1
    replace H := Option.bind_eq_some_iff.mp H
    obtain ⟨t102, A50, H⟩ := H
    replace H : (some t102) = some r := H
    have A5 := Aside0.mk A50
    clear A50
    obtain rfl := Option.some.inj H
    go_enter Try.func104, Try.ntmps104
    go_wp2_with (first | ((with_reducible refine gate_callee (f := 49) rfl ?_); refine goesL_ (some 6) rfl rfl Try.func49 (by kernel_rfl) rfl #[.int .i64 a0] rfl (by (try simp only [List.map_toArray, List.map_cons, List.map_nil]); first | done | rfl | (simp only [List.length_drop, List.length_take]; rfl)) ?_; (with_reducible refine (spec_IsTrit.calls a0 true _ A3.out).mono ?_); rintro e w' ⟨rfl, ⟨nd, rfl⟩⟩; refine ⟨_, rfl, ?_⟩) | (go_at_call 49; (with_reducible refine (spec_IsTrit.calls a1 t102 _ A5.out).mono ?_); rintro e w' ⟨rfl, ⟨nd, rfl⟩⟩))
    go_ret
    exact ⟨by first | rfl | (simp; done) | (simp [*]; done), by repeat (first | exact Drawn0.refl _ | apply Drawn0.step)⟩
  · replace c4 := Bool.eq_false_iff.mpr c4
    subst c4
    have H1 : (some false) = some r := by rw [if_neg (show ¬ (false = true) by decide)] at H; exact H
    clear H
    have H := H1
    clear H1
    obtain rfl := Option.some.inj H
    go_enter Try.func104, Try.ntmps104
    go_wp2_with (first | ((with_reducible refine gate_callee (f := 49) rfl ?_); refine goesL_ (some 6) rfl rfl Try.func49 (by kernel_rfl) rfl #[.int .i64 a0] rfl (by (try simp only [List.map_toArray, List.map_cons, List.map_nil]); first | done | rfl | (simp only [List.length_drop, List.length_take]; rfl)) ?_; (with_reducible refine (spec_IsTrit.calls a0 false _ A3.out).mono ?_); rintro e w' ⟨rfl, ⟨nd, rfl⟩⟩; refine ⟨_, rfl, ?_⟩))
    go_ret
    exact ⟨by first | rfl | (simp; done) | (simp [*]; done), by repeat (first | exact Drawn0.refl _ | apply Drawn0.step)⟩

/-! ### spec_l1Parts: function 110 -/
mutual
def spec_l1Parts.l0 : Nat → Int → Int → Option (Int × Int)
  | 0, _, _ => none
  | k + 1, x0, x4 => if x0 > 1 then (spec_l1Parts.l0 k (wrap64 (x0 - 3)) (wrap64 (x4 + 1))) else (spec_l1Parts.l1 k x0 x4)
def spec_l1Parts.l1 : Nat → Int → Int → Option (Int × Int)
  | 0, _, _ => none
  | k + 1, x0, x4 => if x0 < (-1) then (spec_l1Parts.l1 k (wrap64 (x0 + 3)) (wrap64 (x4 - 1))) else (some (x0, x4))
end
def spec_l1Parts.f (k : Nat) (a0 : Int) : Option (Int × Int) := spec_l1Parts.l0 k a0 0
theorem spec_l1Parts.mono_l : ∀ k, (∀ y0 y1, LeO (spec_l1Parts.l0 k y0 y1) (spec_l1Parts.l0 (k + 1) y0 y1)) ∧ (∀ y0 y1, LeO (spec_l1Parts.l1 k y0 y1) (spec_l1Parts.l1 (k + 1) y0 y1))
  | 0 => ⟨fun _ _ r h => by simp [spec_l1Parts.l0] at h, fun _ _ r h => by simp [spec_l1Parts.l1] at h⟩
  | k + 1 => by
    obtain ⟨ih0, ih1⟩ := spec_l1Parts.mono_l k
    refine ⟨?_, ?_⟩
    · intro y0 y1
      unfold spec_l1Parts.l0
      repeat' first
      | (with_reducible exact ih0 _ _)
      | (with_reducible exact ih1 _ _)
      | (with_reducible exact LeO.refl _)
      | (with_reducible exact LeO.none _)
      | (with_reducible refine LeO.ite ?_ ?_)
      | (with_reducible refine LeO.bind ?_ (fun _ => ?_))
      | exact ih0 _ _
      | exact ih1 _ _
      | exact LeO.none _
      | refine LeO.ite ?_ ?_
      | refine LeO.bind ?_ (fun _ => ?_)
    · intro y0 y1
      unfold spec_l1Parts.l1
      repeat' first
      | (with_reducible exact ih0 _ _)
      | (with_reducible exact ih1 _ _)
      | (with_reducible exact LeO.refl _)
      | (with_reducible exact LeO.none _)
      | (with_reducible refine LeO.ite ?_ ?_)
      | (with_reducible refine LeO.bind ?_ (fun _ => ?_))
      | exact ih0 _ _
      | exact ih1 _ _
      | exact LeO.none _
      | refine LeO.ite ?_ ?_
      | refine LeO.bind ?_ (fun _ => ?_)
theorem spec_l1Parts.mono : ∀ a0 k, LeO (spec_l1Parts.f k a0) (spec_l1Parts.f (k + 1) a0) := by
  intro a0 k
  obtain ⟨ih0, ih1⟩ := spec_l1Parts.mono_l k
  unfold spec_l1Parts.f
  repeat' first
      | (with_reducible exact ih0 _ _)
      | (with_reducible exact ih1 _ _)
      | (with_reducible exact LeO.refl _)
      | (with_reducible exact LeO.none _)
      | (with_reducible refine LeO.ite ?_ ?_)
      | (with_reducible refine LeO.bind ?_ (fun _ => ?_))
      | exact ih0 _ _
      | exact ih1 _ _
      | exact LeO.none _
      | refine LeO.ite ?_ ?_
      | refine LeO.bind ?_ (fun _ => ?_)
set_option maxHeartbeats 8000000 in
set_option maxRecDepth 100000 in
theorem spec_l1Parts.calls (k : Nat) (a0 : Int) (r1 : Int) (r2 : Int) (w : World) (h : spec_l1Parts.f k a0 = some (r1, r2)) :
    Calls Try.prog 110 #[.int .i64 a0] w fun e w' => e = .returned (.tuple #[.int .i64 r1, .int .i64 r2]) ∧ Drawn0 w w' := by
  have H : (spec_l1Parts.l0 k a0 0) = some (r1, r2) := h
  clear h
  have H' := Aside0.mk H
  clear H
  go_enter Try.func110, Try.ntmps110
  go_wp2
  go_loopg [0, 4] k (fun kq v0 v4 w' => ∃ (x0_1 : Int) (x4_1 : Int), v0 = .int .i64 x0_1 ∧ v4 = .int .i64 x4_1 ∧ Aside0 (spec_l1Parts.l0 kq x0_1 x4_1 = some (r1, r2)) ∧ Aside0 (kq ≤ k) ∧ Drawn0 w w')
  case atStart => exact ⟨(a0), (0), (by first | rfl | (simp; done) | (simp [*]; done)), (by first | rfl | (simp; done) | (simp [*]; done)), H', ⟨Nat.le_refl _⟩, by repeat (first | exact Drawn0.refl _ | apply Drawn0.step)⟩
  case round =>
    clear H'
    try clear c1
    obtain ⟨x0_1, x4_1, rfl, rfl, HA, HK1, ⟨m1, rfl⟩⟩ := hrel
    cases gk with
    | zero => exact absurd HA.out (by simp [spec_l1Parts.l0])
    | succ k1 =>
      have H := HA.out
      clear HA
      simp only [spec_l1Parts.l0] at H
      by_cases c2 : x0_1 > 1
      · rw [if_pos c2] at H
        have c2b0 : decide (1 < x0_1) = true := decide_eq_true c2
        clear c2
        have H' := Aside0.mk H
        clear H
        go_wp2
        go_roundg k1
        case measure => have := HK1.out; omega
        case rel => exact ⟨(wrap64 (x0_1 - 3)), (wrap64 (x4_1 + 1)), (by first | rfl | (simp; done) | (simp [*]; done)), (by first | rfl | (simp; done) | (simp [*]; done)), H', ⟨by have := HK1.out; omega⟩, by repeat (first | exact Drawn0.refl _ | apply Drawn0.step)⟩
      · rw [if_neg c2] at H
        have c2b0 : decide (1 < x0_1) = false := decide_eq_false c2
        clear c2
        have H' := Aside0.mk H
        clear H
        go_wp2
        go_loopg [0, 4] k1 (fun kq v0 v4 w' => ∃ (x0_2 : Int) (x4_2 : Int), v0 = .int .i64 x0_2 ∧ v4 = .int .i64 x4_2 ∧ Aside0 (spec_l1Parts.l1 kq x0_2 x4_2 = some (r1, r2)) ∧ Aside0 (kq ≤ k1) ∧ Drawn0 w w')
        case atStart => exact ⟨(x0_1), (x4_1), (by first | rfl | (simp; done) | (simp [*]; done)), (by first | rfl | (simp; done) | (simp [*]; done)), H', ⟨Nat.le_refl _⟩, by repeat (first | exact Drawn0.refl _ | apply Drawn0.step)⟩
        case round =>
          clear H'
          try clear c1
          try clear c2
          try clear c2b0
          try clear p2
          obtain ⟨x0_2, x4_2, rfl, rfl, HA, HK2, ⟨m2, rfl⟩⟩ := hrel
          cases gk with
          | zero => exact absurd HA.out (by simp [spec_l1Parts.l1])
          | succ k2 =>
            have H := HA.out
            clear HA
            simp only [spec_l1Parts.l1] at H
            by_cases c3 : x0_2 < (-1)
            · rw [if_pos c3] at H
              have c3b0 : decide (x0_2 < (-1)) = true := decide_eq_true c3
              clear c3
              have H' := Aside0.mk H
              clear H
              go_wp2
              go_roundg k2
              case measure => have := HK1.out; have := HK2.out; omega
              case rel => exact ⟨(wrap64 (x0_2 + 3)), (wrap64 (x4_2 - 1)), (by first | rfl | (simp; done) | (simp [*]; done)), (by first | rfl | (simp; done) | (simp [*]; done)), H', ⟨by have := HK1.out; have := HK2.out; omega⟩, by repeat (first | exact Drawn0.refl _ | apply Drawn0.step)⟩
            · rw [if_neg c3] at H
              have c3b0 : decide (x0_2 < (-1)) = false := decide_eq_false c3
              clear c3
              simp only [Option.some.injEq, Prod.mk.injEq] at H
              obtain ⟨rfl, rfl⟩ := H
              go_wp2
              go_ret2
              exact ⟨by first | rfl | (simp; done) | (simp [*]; done), by repeat (first | exact Drawn0.refl _ | apply Drawn0.step)⟩

/-! ### spec_HalfAdd: function 105 -/
def spec_HalfAdd.f (k : Nat) (a0 : Int) (a1 : Int) : Option (Int × Int) := (spec_l1Two.f a0 a1).bind fun t101 => (if t101 = true then ((spec_l1Parts.f k (wrap64 (a0 + a1))).bind fun bt102 => (some (bt102.1, bt102.2))) else (some (0, 0)))
theorem spec_HalfAdd.mono : ∀ a0 a1 k, LeO (spec_HalfAdd.f k a0 a1) (spec_HalfAdd.f (k + 1) a0 a1) := by
  intro a0 a1 k
  unfold spec_HalfAdd.f
  repeat' first
      | (with_reducible exact spec_l1Parts.mono _ _)
      | (with_reducible exact LeO.refl _)
      | (with_reducible exact LeO.none _)
      | (with_reducible refine LeO.ite ?_ ?_)
      | (with_reducible refine LeO.bind ?_ (fun _ => ?_))
      | exact spec_l1Parts.mono _ _
      | exact LeO.none _
      | refine LeO.ite ?_ ?_
      | refine LeO.bind ?_ (fun _ => ?_)
set_option maxHeartbeats 8000000 in
set_option maxRecDepth 100000 in
theorem spec_HalfAdd.calls (k : Nat) (a0 : Int) (a1 : Int) (r1 : Int) (r2 : Int) (w : World) (h : spec_HalfAdd.f k a0 a1 = some (r1, r2)) :
    Calls Try.prog 105 #[.int .i64 a0, .int .i64 a1] w fun e w' => e = .returned (.tuple #[.int .i64 r1, .int .i64 r2]) ∧ Drawn0 w w' := by
  have H : ((spec_l1Two.f a0 a1).bind fun t101 => (if t101 = true then ((spec_l1Parts.f k (wrap64 (a0 + a1))).bind fun bt102 => (some (bt102.1, bt102.2))) else (some (0, 0)))) = some (r1, r2) := h
  clear h
  replace H := Option.bind_eq_some_iff.mp H
  obtain ⟨t101, A30, H⟩ := H
  replace H : (if t101 = true then ((spec_l1Parts.f k (wrap64 (a0 + a1))).bind fun bt102 => (some (bt102.1, bt102.2))) else (some (0, 0))) = some (r1, r2) := H
  have A3 := Aside0.mk A30
  clear A30
  by_cases c4 : t101 = true
  · subst c4
    have H1 : ((spec_l1Parts.f k (wrap64 (a0 + a1))).bind fun bt102 => (some (bt102.1, bt102.2))) = some (r1, r2) := by rw [if_pos rfl] at H; exact H
    clear H
    have H := H1
    clear H1
    replace H := Option.bind_eq_some_iff.mp H
    obtain ⟨⟨t102, t103⟩, A50, H⟩ := H
    replace H : (some (t102, t103)) = some (r1, r2) := H
    have A5 := Aside0.mk A50
    clear A50
    simp only [Option.some.injEq, Prod.mk.injEq] at H
    obtain ⟨rfl, rfl⟩ := H
    go_enter Try.func105, Try.ntmps105
    go_wp2_with (first | ((with_reducible refine gate_callee (f := 104) rfl ?_); refine goesL_ (some 8) rfl rfl Try.func104 (by kernel_rfl) rfl #[.int .i64 a0, .int .i64 a1] rfl (by (try simp only [List.map_toArray, List.map_cons, List.map_nil]); first | done | rfl | (simp only [List.length_drop, List.length_take]; rfl)) ?_; (with_reducible refine (spec_l1Two.calls a0 a1 true _ A3.out).mono ?_); rintro e w' ⟨rfl, ⟨nd, rfl⟩⟩; refine ⟨_, rfl, ?_⟩) | ((with_reducible refine gate_callee (f := 110) rfl ?_); refine goesL_ (some 13) rfl rfl Try.func110 (by kernel_rfl) rfl #[.int .i64 (wrap64 (a0 + a1))] rfl (by (try simp only [List.map_toArray, List.map_cons, List.map_nil]); first | done | rfl | (simp only [List.length_drop, List.length_take]; rfl)) ?_; (with_reducible refine (spec_l1Parts.calls k (wrap64 (a0 + a1)) t102 t103 _ A5.out).mono ?_); rintro e w' ⟨rfl, ⟨nd, rfl⟩⟩; refine ⟨_, rfl, ?_⟩))
    go_ret2
    exact ⟨by first | rfl | (simp; done) | (simp [*]; done), by repeat (first | exact Drawn0.refl _ | apply Drawn0.step)⟩
  · replace c4 := Bool.eq_false_iff.mpr c4
    subst c4
    have H1 : (some (0, 0)) = some (r1, r2) := by rw [if_neg (show ¬ (false = true) by decide)] at H; exact H
    clear H
    have H := H1
    clear H1
    simp only [Option.some.injEq, Prod.mk.injEq] at H
    obtain ⟨rfl, rfl⟩ := H
    go_enter Try.func105, Try.ntmps105
    go_wp2_with (first | ((with_reducible refine gate_callee (f := 104) rfl ?_); refine goesL_ (some 8) rfl rfl Try.func104 (by kernel_rfl) rfl #[.int .i64 a0, .int .i64 a1] rfl (by (try simp only [List.map_toArray, List.map_cons, List.map_nil]); first | done | rfl | (simp only [List.length_drop, List.length_take]; rfl)) ?_; (with_reducible refine (spec_l1Two.calls a0 a1 false _ A3.out).mono ?_); rintro e w' ⟨rfl, ⟨nd, rfl⟩⟩; refine ⟨_, rfl, ?_⟩))
    go_ret2
    exact ⟨by first | rfl | (simp; done) | (simp [*]; done), by repeat (first | exact Drawn0.refl _ | apply Drawn0.step)⟩

end Go.Proofs.Ytaopbkbjfmfcdaa.P
