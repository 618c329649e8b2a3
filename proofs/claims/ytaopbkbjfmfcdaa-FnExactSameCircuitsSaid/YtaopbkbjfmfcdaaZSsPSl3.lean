/- What functions of the program come to, each with the proof that it does, laid by a program of this session out of the translation; no condition is set on any claim. -/
import Derived.Test.YtaopbkbjfmfcdaaZSsPSl0
import Derived.Test.YtaopbkbjfmfcdaaZSsPSl2
namespace Go.Proofs.Ytaopbkbjfmfcdaa.P
open Go.RowKit Go.Proofs.YtaopbkbjfmfcdaaW.PrintWords Go.Proofs.YtaopbkbjfmfcdaaW.PrintLast Go.Proofs.YtaopbkbjfmfcdaaW.PrintMore
attribute [local go_sem] max2_int min2_int max_two min_two max_three min_three max_four min_four   -- for this text's walks alone
set_option linter.unusedVariables false
set_option linter.unusedSimpArgs false

/-! ### spec_IsTable: function 56 -/
def trB (x : Int) : Bool := decide (-1 ≤ x) && decide (x ≤ 1)
def isT9 (l : List Int) : Bool := l.all trB
theorem spec_trB (x : Int) : spec_IsTrit.f x = some (trB x) := by
  unfold spec_IsTrit.f spec_l1In.f trB
  by_cases c : -1 ≤ x <;> simp [c]
def spec_IsTable.f (a0_0 a0_1 a0_2 a0_3 a0_4 a0_5 a0_6 a0_7 a0_8 : Int) : Option Bool := some (isT9 [a0_0, a0_1, a0_2, a0_3, a0_4, a0_5, a0_6, a0_7, a0_8])
set_option maxHeartbeats 8000000 in
set_option maxRecDepth 100000 in
theorem spec_IsTable.calls (a0_0 a0_1 a0_2 a0_3 a0_4 a0_5 a0_6 a0_7 a0_8 : Int) (r : Bool) (w : World) (h : spec_IsTable.f a0_0 a0_1 a0_2 a0_3 a0_4 a0_5 a0_6 a0_7 a0_8 = some r) :
    Calls Try.prog 56 #[.agg #[.int .i64 a0_0, .int .i64 a0_1, .int .i64 a0_2, .int .i64 a0_3, .int .i64 a0_4, .int .i64 a0_5, .int .i64 a0_6, .int .i64 a0_7, .int .i64 a0_8]] w fun e w' => e = .returned (.bool r) ∧ Below w.heap.size w w' := by
  have HR := Aside0.mk (Option.some.inj h)
  clear h
  have HB := Aside0.mk (Below.refl w.heap.size w)
  go_enter Try.func56, Try.ntmps56
  go_wp2
  go_loopg [3] 10 (fun kq v3 w' => ∃ i : Nat, v3 = .int .i64 (i : Int) ∧ Aside0 ((∀ j, j < i → trB (([a0_0, a0_1, a0_2, a0_3, a0_4, a0_5, a0_6, a0_7, a0_8] : List Int).getD j 0) = true) ∧ i ≤ 9 ∧ kq = 10 - i) ∧ Drawn0 (w.alloc (.cells #[.int .i64 a0_0, .int .i64 a0_1, .int .i64 a0_2, .int .i64 a0_3, .int .i64 a0_4, .int .i64 a0_5, .int .i64 a0_6, .int .i64 a0_7, .int .i64 a0_8] 23)) w')
  case atStart => exact ⟨0, rfl, ⟨fun j hj => absurd hj (Nat.not_lt_zero _), by omega, rfl⟩, by repeat (first | exact Drawn0.refl _ | apply Drawn0.step)⟩
  case round =>
    obtain ⟨i, rfl, HA, ⟨m1, rfl⟩⟩ := hrel
    have hi : i = 9 ∨ i = 0 ∨ i = 1 ∨ i = 2 ∨ i = 3 ∨ i = 4 ∨ i = 5 ∨ i = 6 ∨ i = 7 ∨ i = 8 := by have := HA.out.2; omega
    rcases hi with rfl | rfl | rfl | rfl | rfl | rfl | rfl | rfl | rfl | rfl
    · have e0 : trB a0_0 = true := HA.out.1 0 (by omega)
      have e1 : trB a0_1 = true := HA.out.1 1 (by omega)
      have e2 : trB a0_2 = true := HA.out.1 2 (by omega)
      have e3 : trB a0_3 = true := HA.out.1 3 (by omega)
      have e4 : trB a0_4 = true := HA.out.1 4 (by omega)
      have e5 : trB a0_5 = true := HA.out.1 5 (by omega)
      have e6 : trB a0_6 = true := HA.out.1 6 (by omega)
      have e7 : trB a0_7 = true := HA.out.1 7 (by omega)
      have e8 : trB a0_8 = true := HA.out.1 8 (by omega)
      have E0 : isT9 [a0_0, a0_1, a0_2, a0_3, a0_4, a0_5, a0_6, a0_7, a0_8] = true := by simp only [isT9, List.all_cons, List.all_nil, e0, e1, e2, e3, e4, e5, e6, e7, e8, Bool.and_self]
      have E := Aside0.mk E0
      clear E0 e0 e1 e2 e3 e4 e5 e6 e7 e8
      go_wp2
      go_ret
      exact ⟨congrArg (fun b_ => Ending.returned (Value.bool b_)) (HR.out.symm.trans E.out).symm, by repeat (first | (with_reducible first | exact HB.out | apply below_alloc | apply pw_below_drewN | apply below_drew1) | exact HB.out)⟩
    · cases c : trB a0_0 with
      | true =>
        have HF := Aside0.mk ((spec_trB a0_0).trans (congrArg some c))
        have HC := Aside0.mk c
        clear c
        go_wp2_with (go_at_call 49; (with_reducible refine (spec_IsTrit.calls a0_0 true _ HF.out).mono ?_); rintro e w' ⟨rfl, ⟨nd, rfl⟩⟩)
        go_roundg (gk - 1)
        case measure => have := HA.out.2; omega
        case rel => exact ⟨1, rfl, ⟨⟨fun j hj => (Nat.lt_or_ge j 0).elim (HA.out.1 j) (fun q => (show j = 0 by omega) ▸ HC.out), by omega, by have := HA.out.2; omega⟩⟩, by repeat (first | exact Drawn0.refl _ | apply Drawn0.step)⟩
      | false =>
        have HF := Aside0.mk ((spec_trB a0_0).trans (congrArg some c))
        have E0 : isT9 [a0_0, a0_1, a0_2, a0_3, a0_4, a0_5, a0_6, a0_7, a0_8] = false := by simp only [isT9, List.all_cons, List.all_nil, c, Bool.and_false, Bool.false_and]
        have E := Aside0.mk E0
        clear c E0
        go_wp2_with (go_at_call 49; (with_reducible refine (spec_IsTrit.calls a0_0 false _ HF.out).mono ?_); rintro e w' ⟨rfl, ⟨nd, rfl⟩⟩)
        go_ret
        exact ⟨congrArg (fun b_ => Ending.returned (Value.bool b_)) (HR.out.symm.trans E.out).symm, by repeat (first | (with_reducible first | exact HB.out | apply below_alloc | apply pw_below_drewN | apply below_drew1) | exact HB.out)⟩
    · cases c : trB a0_1 with
      | true =>
        have HF := Aside0.mk ((spec_trB a0_1).trans (congrArg some c))
        have HC := Aside0.mk c
        clear c
        go_wp2_with (go_at_call 49; (with_reducible refine (spec_IsTrit.calls a0_1 true _ HF.out).mono ?_); rintro e w' ⟨rfl, ⟨nd, rfl⟩⟩)
        go_roundg (gk - 1)
        case measure => have := HA.out.2; omega
        case rel => exact ⟨2, rfl, ⟨⟨fun j hj => (Nat.lt_or_ge j 1).elim (HA.out.1 j) (fun q => (show j = 1 by omega) ▸ HC.out), by omega, by have := HA.out.2; omega⟩⟩, by repeat (first | exact Drawn0.refl _ | apply Drawn0.step)⟩
      | false =>
        have HF := Aside0.mk ((spec_trB a0_1).trans (congrArg some c))
        have E0 : isT9 [a0_0, a0_1, a0_2, a0_3, a0_4, a0_5, a0_6, a0_7, a0_8] = false := by simp only [isT9, List.all_cons, List.all_nil, c, Bool.and_false, Bool.false_and]
        have E := Aside0.mk E0
        clear c E0
        go_wp2_with (go_at_call 49; (with_reducible refine (spec_IsTrit.calls a0_1 false _ HF.out).mono ?_); rintro e w' ⟨rfl, ⟨nd, rfl⟩⟩)
        go_ret
        exact ⟨congrArg (fun b_ => Ending.returned (Value.bool b_)) (HR.out.symm.trans E.out).symm, by repeat (first | (with_reducible first | exact HB.out | apply below_alloc | apply pw_below_drewN | apply below_drew1) | exact HB.out)⟩
    · cases c : trB a0_2 with
      | true =>
        have HF := Aside0.mk ((spec_trB a0_2).trans (congrArg some c))
        have HC := Aside0.mk c
        clear c
        go_wp2_with (go_at_call 49; (with_reducible refine (spec_IsTrit.calls a0_2 true _ HF.out).mono ?_); rintro e w' ⟨rfl, ⟨nd, rfl⟩⟩)
        go_roundg (gk - 1)
        case measure => have := HA.out.2; omega
        case rel => exact ⟨3, rfl, ⟨⟨fun j hj => (Nat.lt_or_ge j 2).elim (HA.out.1 j) (fun q => (show j = 2 by omega) ▸ HC.out), by omega, by have := HA.out.2; omega⟩⟩, by repeat (first | exact Drawn0.refl _ | apply Drawn0.step)⟩
      | false =>
        have HF := Aside0.mk ((spec_trB a0_2).trans (congrArg some c))
        have E0 : isT9 [a0_0, a0_1, a0_2, a0_3, a0_4, a0_5, a0_6, a0_7, a0_8] = false := by simp only [isT9, List.all_cons, List.all_nil, c, Bool.and_false, Bool.false_and]
        have E := Aside0.mk E0
        clear c E0
        go_wp2_with (go_at_call 49; (with_reducible refine (spec_IsTrit.calls a0_2 false _ HF.out).mono ?_); rintro e w' ⟨rfl, ⟨nd, rfl⟩⟩)
        go_ret
        exact ⟨congrArg (fun b_ => Ending.returned (Value.bool b_)) (HR.out.symm.trans E.out).symm, by repeat (first | (with_reducible first | exact HB.out | apply below_alloc | apply pw_below_drewN | apply below_drew1) | exact HB.out)⟩
    · cases c : trB a0_3 with
      | true =>
        have HF := Aside0.mk ((spec_trB a0_3).trans (congrArg some c))
        have HC := Aside0.mk c
        clear c
        go_wp2_with (go_at_call 49; (with_reducible refine (spec_IsTrit.calls a0_3 true _ HF.out).mono ?_); rintro e w' ⟨rfl, ⟨nd, rfl⟩⟩)
        go_roundg (gk - 1)
        case measure => have := HA.out.2; omega
        case rel => exact ⟨4, rfl, ⟨⟨fun j hj => (Nat.lt_or_ge j 3).elim (HA.out.1 j) (fun q => (show j = 3 by omega) ▸ HC.out), by omega, by have := HA.out.2; omega⟩⟩, by repeat (first | exact Drawn0.refl _ | apply Drawn0.step)⟩
      | false =>
        have HF := Aside0.mk ((spec_trB a0_3).trans (congrArg some c))
        have E0 : isT9 [a0_0, a0_1, a0_2, a0_3, a0_4, a0_5, a0_6, a0_7, a0_8] = false := by simp only [isT9, List.all_cons, List.all_nil, c, Bool.and_false, Bool.false_and]
        have E := Aside0.mk E0
        clear c E0
        go_wp2_with (go_at_call 49; (with_reducible refine (spec_IsTrit.calls a0_3 false _ HF.out).mono ?_); rintro e w' ⟨rfl, ⟨nd, rfl⟩⟩)
        go_ret
        exact ⟨congrArg (fun b_ => Ending.returned (Value.bool b_)) (HR.out.symm.trans E.out).symm, by repeat (first | (with_reducible first | exact HB.out | apply below_alloc | apply pw_below_drewN | apply below_drew1) | exact HB.out)⟩
    · cases c : trB a0_4 with
      | true =>
        have HF := Aside0.mk ((spec_trB a0_4).trans (congrArg some c))
        have HC := Aside0.mk c
        clear c
        go_wp2_with (go_at_call 49; (with_reducible refine (spec_IsTrit.calls a0_4 true _ HF.out).mono ?_); rintro e w' ⟨rfl, ⟨nd, rfl⟩⟩)
        go_roundg (gk - 1)
        case measure => have := HA.out.2; omega
        case rel => exact ⟨5, rfl, ⟨⟨fun j hj => (Nat.lt_or_ge j 4).elim (HA.out.1 j) (fun q => (show j = 4 by omega) ▸ HC.out), by omega, by have := HA.out.2; omega⟩⟩, by repeat (first | exact Drawn0.refl _ | apply Drawn0.step)⟩
      | false =>
        have HF := Aside0.mk ((spec_trB a0_4).trans (congrArg some c))
        have E0 : isT9 [a0_0, a0_1, a0_2, a0_3, a0_4, a0_5, a0_6, a0_7, a0_8] = false := by simp only [isT9, List.all_cons, List.all_nil, c, Bool.and_false, Bool.false_and]
        have E := Aside0.mk E0
        clear c E0
        go_wp2_with (go_at_call 49; (with_reducible refine (spec_IsTrit.calls a0_4 false _ HF.out).mono ?_); rintro e w' ⟨rfl, ⟨nd, rfl⟩⟩)
        go_ret
        exact ⟨congrArg (fun b_ => Ending.returned (Value.bool b_)) (HR.out.symm.trans E.out).symm, by repeat (first | (with_reducible first | exact HB.out | apply below_alloc | apply pw_below_drewN | apply below_drew1) | exact HB.out)⟩
    · cases c : trB a0_5 with
      | true =>
        have HF := Aside0.mk ((spec_trB a0_5).trans (congrArg some c))
        have HC := Aside0.mk c
        clear c
        go_wp2_with (go_at_call 49; (with_reducible refine (spec_IsTrit.calls a0_5 true _ HF.out).mono ?_); rintro e w' ⟨rfl, ⟨nd, rfl⟩⟩)
        go_roundg (gk - 1)
        case measure => have := HA.out.2; omega
        case rel => exact ⟨6, rfl, ⟨⟨fun j hj => (Nat.lt_or_ge j 5).elim (HA.out.1 j) (fun q => (show j = 5 by omega) ▸ HC.out), by omega, by have := HA.out.2; omega⟩⟩, by repeat (first | exact Drawn0.refl _ | apply Drawn0.step)⟩
      | false =>
        have HF := Aside0.mk ((spec_trB a0_5).trans (congrArg some c))
        have E0 : isT9 [a0_0, a0_1, a0_2, a0_3, a0_4, a0_5, a0_6, a0_7, a0_8] = false := by simp only [isT9, List.all_cons, List.all_nil, c, Bool.and_false, Bool.false_and]
        have E := Aside0.mk E0
        clear c E0
        go_wp2_with (go_at_call 49; (with_reducible refine (spec_IsTrit.calls a0_5 false _ HF.out).mono ?_); rintro e w' ⟨rfl, ⟨nd, rfl⟩⟩)
        go_ret
        exact ⟨congrArg (fun b_ => Ending.returned (Value.bool b_)) (HR.out.symm.trans E.out).symm, by repeat (first | (with_reducible first | exact HB.out | apply below_alloc | apply pw_below_drewN | apply below_drew1) | exact HB.out)⟩
    · cases c : trB a0_6 with
      | true =>
        have HF := Aside0.mk ((spec_trB a0_6).trans (congrArg some c))
        have HC := Aside0.mk c
        clear c
        go_wp2_with (go_at_call 49; (with_reducible refine (spec_IsTrit.calls a0_6 true _ HF.out).mono ?_); rintro e w' ⟨rfl, ⟨nd, rfl⟩⟩)
        go_roundg (gk - 1)
        case measure => have := HA.out.2; omega
        case rel => exact ⟨7, rfl, ⟨⟨fun j hj => (Nat.lt_or_ge j 6).elim (HA.out.1 j) (fun q => (show j = 6 by omega) ▸ HC.out), by omega, by have := HA.out.2; omega⟩⟩, by repeat (first | exact Drawn0.refl _ | apply Drawn0.step)⟩
      | false =>
        have HF := Aside0.mk ((spec_trB a0_6).trans (congrArg some c))
        have E0 : isT9 [a0_0, a0_1, a0_2, a0_3, a0_4, a0_5, a0_6, a0_7, a0_8] = false := by simp only [isT9, List.all_cons, List.all_nil, c, Bool.and_false, Bool.false_and]
        have E := Aside0.mk E0
        clear c E0
        go_wp2_with (go_at_call 49; (with_reducible refine (spec_IsTrit.calls a0_6 false _ HF.out).mono ?_); rintro e w' ⟨rfl, ⟨nd, rfl⟩⟩)
        go_ret
        exact ⟨congrArg (fun b_ => Ending.returned (Value.bool b_)) (HR.out.symm.trans E.out).symm, by repeat (first | (with_reducible first | exact HB.out | apply below_alloc | apply pw_below_drewN | apply below_drew1) | exact HB.out)⟩
    · cases c : trB a0_7 with
      | true =>
        have HF := Aside0.mk ((spec_trB a0_7).trans (congrArg some c))
        have HC := Aside0.mk c
        clear c
        go_wp2_with (go_at_call 49; (with_reducible refine (spec_IsTrit.calls a0_7 true _ HF.out).mono ?_); rintro e w' ⟨rfl, ⟨nd, rfl⟩⟩)
        go_roundg (gk - 1)
        case measure => have := HA.out.2; omega
        case rel => exact ⟨8, rfl, ⟨⟨fun j hj => (Nat.lt_or_ge j 7).elim (HA.out.1 j) (fun q => (show j = 7 by omega) ▸ HC.out), by omega, by have := HA.out.2; omega⟩⟩, by repeat (first | exact Drawn0.refl _ | apply Drawn0.step)⟩
      | false =>
        have HF := Aside0.mk ((spec_trB a0_7).trans (congrArg some c))
        have E0 : isT9 [a0_0, a0_1, a0_2, a0_3, a0_4, a0_5, a0_6, a0_7, a0_8] = false := by simp only [isT9, List.all_cons, List.all_nil, c, Bool.and_false, Bool.false_and]
        have E := Aside0.mk E0
        clear c E0
        go_wp2_with (go_at_call 49; (with_reducible refine (spec_IsTrit.calls a0_7 false _ HF.out).mono ?_); rintro e w' ⟨rfl, ⟨nd, rfl⟩⟩)
        go_ret
        exact ⟨congrArg (fun b_ => Ending.returned (Value.bool b_)) (HR.out.symm.trans E.out).symm, by repeat (first | (with_reducible first | exact HB.out | apply below_alloc | apply pw_below_drewN | apply below_drew1) | exact HB.out)⟩
    · cases c : trB a0_8 with
      | true =>
        have HF := Aside0.mk ((spec_trB a0_8).trans (congrArg some c))
        have HC := Aside0.mk c
        clear c
        go_wp2_with (go_at_call 49; (with_reducible refine (spec_IsTrit.calls a0_8 true _ HF.out).mono ?_); rintro e w' ⟨rfl, ⟨nd, rfl⟩⟩)
        go_roundg (gk - 1)
        case measure => have := HA.out.2; omega
        case rel => exact ⟨9, rfl, ⟨⟨fun j hj => (Nat.lt_or_ge j 8).elim (HA.out.1 j) (fun q => (show j = 8 by omega) ▸ HC.out), by omega, by have := HA.out.2; omega⟩⟩, by repeat (first | exact Drawn0.refl _ | apply Drawn0.step)⟩
      | false =>
        have HF := Aside0.mk ((spec_trB a0_8).trans (congrArg some c))
        have E0 : isT9 [a0_0, a0_1, a0_2, a0_3, a0_4, a0_5, a0_6, a0_7, a0_8] = false := by simp only [isT9, List.all_cons, List.all_nil, c, Bool.and_false, Bool.false_and]
        have E := Aside0.mk E0
        clear c E0
        go_wp2_with (go_at_call 49; (with_reducible refine (spec_IsTrit.calls a0_8 false _ HF.out).mono ?_); rintro e w' ⟨rfl, ⟨nd, rfl⟩⟩)
        go_ret
        exact ⟨congrArg (fun b_ => Ending.returned (Value.bool b_)) (HR.out.symm.trans E.out).symm, by repeat (first | (with_reducible first | exact HB.out | apply below_alloc | apply pw_below_drewN | apply below_drew1) | exact HB.out)⟩

/-! ### impl_IsTrit: function 50 -/
def impl_IsTrit.f (a0 : Int) : Option (Bool) := if a0 ≥ (-1) then (some (decide (a0 ≤ 1))) else (some false)
set_option maxHeartbeats 8000000 in
set_option maxRecDepth 100000 in
theorem impl_IsTrit.calls (a0 : Int) (r : Bool) (w : World) (h : impl_IsTrit.f a0 = some r) :
  Calls Try.prog 50 #[.int .i64 a0] w fun e w' => e = .returned (.bool r) ∧ Drawn0 w w' := by
 have H : (if a0 ≥ (-1) then (some (decide (a0 ≤ 1))) else (some false)) = some r := h
 clear h
 by_cases c2 : a0 ≥ (-1)
 ·rw [if_pos c2] at H
  have c2b0 : decide ((-1) ≤ a0) = true := decide_eq_true c2
  clear c2
  obtain rfl := Option.some.inj H
  go_enter Try.func50, Try.ntmps50
  go_wp2
  go_ret
  exact ⟨by first | rfl | (simp; done) | (simp [*]; done), by repeat (first | exact Drawn0.refl _ | apply Drawn0.step)⟩
 ·rw [if_neg c2] at H
  have c2b0 : decide ((-1) ≤ a0) = false := decide_eq_false c2
  clear c2
  obtain rfl := Option.some.inj H
  go_enter Try.func50, Try.ntmps50
  go_wp2
  go_ret
  exact ⟨by first | rfl | (simp; done) | (simp [*]; done), by repeat (first | exact Drawn0.refl _ | apply Drawn0.step)⟩

/-! ### impl_trits: function 65 -/
def impl_trits.l0 : Nat → List Int → Int → Int → Option (Bool)
 | 0, _, _, _ => none
 | k + 1, x5, x6, x7 => if x7 < x6 then (if 0 ≤ x7 then (if x7 < (x5.length : Int) then ((impl_IsTrit.f (rd x5 x7)).bind fun t102 => (if t102 = true then (impl_trits.l0 k x5 x6 (wrap64 (x7 + 1))) else (some false))) else (none)) else (none)) else (some true)
def impl_trits.f (k : Nat) (l0 : List Int) : Option (Bool) := impl_trits.l0 k l0 (l0.length : Int) 0
set_option maxHeartbeats 8000000 in
set_option maxRecDepth 100000 in
theorem impl_trits.calls (k : Nat) (A0 : Option Addr) (c0 : Nat) (l0 : List Int) (r : Bool) (w : World) (hr0 : Kd.C (Kd.int .i64) w A0 l0.length l0) (hc0 : l0.length ≤ c0) (h : impl_trits.f k l0 = some r) :
  Calls Try.prog 65 #[.slice A0 l0.length c0] w fun e w' => e = .returned (.bool r) ∧ Drawn0 w w' := by
 have HR0 := am hr0; have HC0 := am hc0; clear hr0 hc0
 have H : (impl_trits.l0 k l0 (l0.length : Int) 0) = some r := h
 clear h
 have H' := am H
 clear H
 go_enter Try.func65, Try.ntmps65
 go_wp2
 go_loopg [7] k (fun kq v7 w' => ∃ (x7_1 : Int), v7 = .int .i64 x7_1 ∧ Aside0 (impl_trits.l0 kq l0 (l0.length : Int) x7_1 = some r) ∧ Aside0 (kq ≤ k) ∧ Drawn0 w w')
 case atStart => exact ⟨(0), (by first | rfl | (simp; done) | (simp [*]; done)), H', ⟨Nat.le_refl _⟩, by repeat (first | exact Drawn0.refl _ | apply Drawn0.step)⟩
 case round =>
  clear H'
  obtain ⟨x7_1, rfl, HA, HK1, ⟨m1, rfl⟩⟩ := hrel
  cases gk with
  | zero => exact absurd HA.out (by simp [impl_trits.l0])
  | succ k1 =>
   have H := HA.out; clear HA
   simp only [impl_trits.l0] at H
   by_cases c2 : x7_1 < (l0.length : Int)
   ·rw [if_pos c2] at H
    have c2b0 : decide (x7_1 < (l0.length : Int)) = true := decide_eq_true c2
    clear c2
    by_cases c3 : 0 ≤ x7_1
    ·rw [if_pos c3] at H
     have c3b0 : decide (0 ≤ x7_1) = true := decide_eq_true c3
     clear c3
     by_cases c4 : x7_1 < (l0.length : Int)
     ·rw [if_pos c4] at H
      have c4b0 : decide (x7_1 < (l0.length : Int)) = true := decide_eq_true c4
      clear c4
      replace H := Option.bind_eq_some_iff.mp H
      obtain ⟨t102, A50, H⟩ := H
      replace H : (if t102 = true then (impl_trits.l0 k1 l0 (l0.length : Int) (wrap64 (x7_1 + 1))) else (some false)) = some r := H
      have A5 := am A50; clear A50
      by_cases c6 : t102 = true
      ·subst c6
       have H1 : (impl_trits.l0 k1 l0 (l0.length : Int) (wrap64 (x7_1 + 1))) = some r := by rw [if_pos rfl] at H; exact H
       clear H; have H := H1; clear H1
       have H' := am H
       clear H
       have p101 : 0 ≤ (x7_1 : Int) := of_decide_eq_true (by assumption)
       have q101 : x7_1 < (l0.length : Int) := of_decide_eq_true (by assumption)
       obtain ⟨ad101, e101, hx101_0⟩ := Kd.at_int HR0.out x7_1 p101 q101
       cases e101
       replace p101 := eq_true p101
       replace q101 := eq_true q101
       go_wp2_with (first | ((with_reducible refine gate_callee (f := 50) rfl ?_); refine goesL_ (some 12) rfl rfl Try.func50 (by kernel_rfl) rfl #[.int .i64 (rd l0 x7_1)] rfl bE ?_; (with_reducible refine (impl_IsTrit.calls (rd l0 x7_1) true _ A5.out).mono ?_); rintro e w' ⟨rfl, ⟨nd, rfl⟩⟩; refine ⟨_, rfl, ?_⟩))
       go_roundg k1
       case measure => have := HK1.out; omega
       case rel => exact ⟨(wrap64 (x7_1 + 1)), (by first | rfl | (simp; done) | (simp [*]; done)), H', ⟨by have := HK1.out; omega⟩, by repeat (first | exact Drawn0.refl _ | apply Drawn0.step)⟩
      ·replace c6 := Bool.eq_false_iff.mpr c6
       subst c6
       have H1 : (some false) = some r := by rw [if_neg (show ¬ (false = true) by decide)] at H; exact H
       clear H; have H := H1; clear H1
       obtain rfl := Option.some.inj H
       have p101 : 0 ≤ (x7_1 : Int) := of_decide_eq_true (by assumption)
       have q101 : x7_1 < (l0.length : Int) := of_decide_eq_true (by assumption)
       obtain ⟨ad101, e101, hx101_0⟩ := Kd.at_int HR0.out x7_1 p101 q101
       cases e101
       replace p101 := eq_true p101
       replace q101 := eq_true q101
       go_wp2_with (first | ((with_reducible refine gate_callee (f := 50) rfl ?_); refine goesL_ (some 12) rfl rfl Try.func50 (by kernel_rfl) rfl #[.int .i64 (rd l0 x7_1)] rfl bE ?_; (with_reducible refine (impl_IsTrit.calls (rd l0 x7_1) false _ A5.out).mono ?_); rintro e w' ⟨rfl, ⟨nd, rfl⟩⟩; refine ⟨_, rfl, ?_⟩))
       go_ret
       exact ⟨by first | rfl | (simp; done) | (simp [*]; done), by repeat (first | exact Drawn0.refl _ | apply Drawn0.step)⟩
     ·rw [if_neg c4] at H
      exact absurd H (by simp)
    ·rw [if_neg c3] at H
     exact absurd H (by simp)
   ·rw [if_neg c2] at H
    have c2b0 : decide (x7_1 < (l0.length : Int)) = false := decide_eq_false c2
    clear c2
    obtain rfl := Option.some.inj H
    go_wp2
    go_ret
    exact ⟨by first | rfl | (simp; done) | (simp [*]; done), by repeat (first | exact Drawn0.refl _ | apply Drawn0.step)⟩

/-! ### impl_IsTable: function 58 -/
theorem impl_trB (x : Int) : impl_IsTrit.f x = some (trB x) := by
  unfold impl_IsTrit.f trB
  by_cases c : -1 ≤ x <;> simp [c]
theorem bindS {α β : Type} (x : α) (f : α → Option β) : (some x).bind f = f x := by
  cases h : f x with
  | none => simp [h]
  | some y => simp [h]
theorem impl_trits_go (l : List Int) (hl : l.length ≤ 2000000) : ∀ (d k i : Nat), i + d = l.length → d < k →
    impl_trits.l0 k l (l.length : Int) (i : Int) = some (isT9 (l.drop i)) := by
  intro d
  induction d with
  | zero =>
    intro k i h hk
    obtain ⟨k, rfl⟩ : ∃ m, k = m + 1 := ⟨k - 1, by omega⟩
    simp only [impl_trits.l0]
    rw [if_neg (by omega), List.drop_eq_nil_of_le (by omega)]
    rfl
  | succ d ih =>
    intro k i h hk
    obtain ⟨k, rfl⟩ : ∃ m, k = m + 1 := ⟨k - 1, by omega⟩
    simp only [impl_trits.l0]
    have hd : l.drop i = rd l (i : Int) :: l.drop (i + 1) := by
      rw [List.drop_eq_getElem_cons (by omega)]
      congr 1
      simp [rd, List.getElem?_eq_getElem (show i < l.length by omega)]
    rw [if_pos (by omega), if_pos (by omega), if_pos (by omega), impl_trB, bindS, hd]
    cases c : trB (rd l (i : Int)) with
    | true =>
      rw [if_pos rfl, show wrap64 ((i : Int) + 1) = ((i + 1 : Nat) : Int) by unfold wrap64; omega, ih k (i + 1) (by omega) (by omega)]
      simp [isT9, c]
    | false =>
      rw [if_neg (by decide)]
      simp [isT9, c]
theorem t9_cells (a0_0 a0_1 a0_2 a0_3 a0_4 a0_5 a0_6 a0_7 a0_8 : Int) : (#[.int .i64 a0_0, .int .i64 a0_1, .int .i64 a0_2, .int .i64 a0_3, .int .i64 a0_4, .int .i64 a0_5, .int .i64 a0_6, .int .i64 a0_7, .int .i64 a0_8] : Array Value) = (([a0_0, a0_1, a0_2, a0_3, a0_4, a0_5, a0_6, a0_7, a0_8] : List Int).map (Value.int .i64)).toArray := rfl
theorem t9_reads (a0_0 a0_1 a0_2 a0_3 a0_4 a0_5 a0_6 a0_7 a0_8 : Int) (w : World) : Kd.C (Kd.int .i64) (w.alloc (.cells #[.int .i64 a0_0, .int .i64 a0_1, .int .i64 a0_2, .int .i64 a0_3, .int .i64 a0_4, .int .i64 a0_5, .int .i64 a0_6, .int .i64 a0_7, .int .i64 a0_8] 23)) (some ⟨w.heap.size, 0, none⟩) ([a0_0, a0_1, a0_2, a0_3, a0_4, a0_5, a0_6, a0_7, a0_8] : List Int).length [a0_0, a0_1, a0_2, a0_3, a0_4, a0_5, a0_6, a0_7, a0_8] := by
  refine ⟨rfl, by show 9 ≤ _; decide, fun _ => ⟨_, rfl, fun j p hj => ⟨[.int .i64 p], rfl, rfl, fun i u hu => ?_⟩⟩⟩
  have hi : i = 0 := by
    have := (List.getElem?_eq_some_iff.1 hu).1
    simp at this
    exact this
  subst hi
  obtain rfl : Value.int .i64 p = u := by simpa using hu
  have hb := blk_new w (.cells #[.int .i64 a0_0, .int .i64 a0_1, .int .i64 a0_2, .int .i64 a0_3, .int .i64 a0_4, .int .i64 a0_5, .int .i64 a0_6, .int .i64 a0_7, .int .i64 a0_8] 23)
  have e : (Addr.add ⟨w.heap.size, 0, none⟩ (j * 1 + 0)) = ⟨w.heap.size, j, none⟩ := by unfold Addr.add; simp; exact fun h => h.symm
  show World.cell? _ (Addr.add ⟨w.heap.size, 0, none⟩ (j * 1 + 0)) = _
  rw [e]
  refine (blk_cell hb j).trans ?_
  rw [t9_cells]
  simp only [List.getElem?_toArray, List.getElem?_map]
  rw [hj]
  rfl
def impl_IsTable.f (a0_0 a0_1 a0_2 a0_3 a0_4 a0_5 a0_6 a0_7 a0_8 : Int) : Option Bool := some (isT9 [a0_0, a0_1, a0_2, a0_3, a0_4, a0_5, a0_6, a0_7, a0_8])
theorem impl_trits_nine (a0_0 a0_1 a0_2 a0_3 a0_4 a0_5 a0_6 a0_7 a0_8 : Int) : impl_trits.f 10 [a0_0, a0_1, a0_2, a0_3, a0_4, a0_5, a0_6, a0_7, a0_8] = some (isT9 [a0_0, a0_1, a0_2, a0_3, a0_4, a0_5, a0_6, a0_7, a0_8]) := impl_trits_go [a0_0, a0_1, a0_2, a0_3, a0_4, a0_5, a0_6, a0_7, a0_8] (by simp) 9 10 0 rfl (by omega)
set_option maxHeartbeats 8000000 in
set_option maxRecDepth 100000 in
theorem impl_IsTable.calls (a0_0 a0_1 a0_2 a0_3 a0_4 a0_5 a0_6 a0_7 a0_8 : Int) (r : Bool) (w : World) (h : impl_IsTable.f a0_0 a0_1 a0_2 a0_3 a0_4 a0_5 a0_6 a0_7 a0_8 = some r) :
    Calls Try.prog 58 #[.agg #[.int .i64 a0_0, .int .i64 a0_1, .int .i64 a0_2, .int .i64 a0_3, .int .i64 a0_4, .int .i64 a0_5, .int .i64 a0_6, .int .i64 a0_7, .int .i64 a0_8]] w fun e w' => e = .returned (.bool r) ∧ Below w.heap.size w w' := by
  have HR := Aside0.mk (Option.some.inj h)
  clear h
  have HB := Aside0.mk (Below.refl w.heap.size w)
  have HT := Aside0.mk (impl_trits_nine a0_0 a0_1 a0_2 a0_3 a0_4 a0_5 a0_6 a0_7 a0_8)
  have HC := Aside0.mk (t9_reads a0_0 a0_1 a0_2 a0_3 a0_4 a0_5 a0_6 a0_7 a0_8 w)
  go_enter Try.func58, Try.ntmps58
  go_wp2_with (go_at_call 65; (refine (impl_trits.calls 10 (some ⟨w.heap.size, 0, none⟩) 9 [a0_0, a0_1, a0_2, a0_3, a0_4, a0_5, a0_6, a0_7, a0_8] _ _ HC.out (Nat.le_refl 9) HT.out).mono ?_); rintro e w' ⟨rfl, ⟨nd, rfl⟩⟩)
  go_ret
  exact ⟨congrArg (fun b_ => Ending.returned (Value.bool b_)) HR.out, by repeat (first | (with_reducible first | exact HB.out | apply below_alloc | apply pw_below_drewN | apply below_drew1) | exact HB.out)⟩

-- NOT PRINTED: function 82 (slices_IndexFunc_int_int)

/-! ### slices_ContainsFunc_int_int: function 59 -/
theorem out_one (n m : Int) (g : Nat) (w : World) (hc : w.cell? ⟨g, 0, none⟩ = some (.int .i64 m)) : Calls Try.prog 60 #[.int .i64 n, .pointer (some ⟨g, 0, none⟩)] w fun e w' => e = .returned (.bool (decide (n < 0 ∨ m ≤ n))) ∧ Drawn0 w w' := by
  by_cases c : n < 0
  · have e : decide (n < 0 ∨ m ≤ n) = true := decide_eq_true (.inl c)
    rw [e]
    have c0 : decide (n < 0) = true := decide_eq_true c
    clear c e
    go_enter Try.func60, Try.ntmps60
    go_wp2
    repeat (go_quiet (fail); try go_wp2)
    go_ret
    exact ⟨rfl, by repeat (first | exact Drawn0.refl _ | apply Drawn0.step)⟩
  · have e : decide (n < 0 ∨ m ≤ n) = decide (m ≤ n) := by simp [c]
    rw [e]
    have c0 : decide (n < 0) = false := decide_eq_false c
    clear c e
    go_enter Try.func60, Try.ntmps60
    go_wp2
    repeat (go_quiet (fail); try go_wp2)
    go_ret
    exact ⟨rfl, by repeat (first | exact Drawn0.refl _ | apply Drawn0.step)⟩
def outB (l : List Int) (m : Int) : Bool := decide (∃ x, x ∈ l ∧ (x < 0 ∨ m ≤ x))
def outIdx (l : List Int) (m i : Int) : Prop := (0 ≤ i ∧ ∃ x, x ∈ l ∧ (x < 0 ∨ m ≤ x)) ∨ (i = -1 ∧ ∀ x, x ∈ l → 0 ≤ x ∧ x < m)
theorem rd_in (l : List Int) (i : Int) (h0 : 0 ≤ i) (h1 : i < (l.length : Int)) : rd l i ∈ l := by
  unfold rd
  rw [List.getD_eq_getElem?_getD, List.getElem?_eq_getElem (show i.toNat < l.length by omega)]
  exact List.getElem_mem _
theorem in_rd (l : List Int) (x : Int) (h : x ∈ l) : ∃ i : Int, 0 ≤ i ∧ i < (l.length : Int) ∧ rd l i = x := by
  obtain ⟨n, hn, e⟩ := List.mem_iff_getElem.1 h
  refine ⟨(n : Int), by omega, by omega, ?_⟩
  unfold rd
  rw [Int.toNat_natCast, List.getD_eq_getElem?_getD, List.getElem?_eq_getElem hn]
  exact e
set_option maxHeartbeats 8000000 in
set_option maxRecDepth 100000 in
theorem out_index (A0 : Option Addr) (c0 : Nat) (l0 : List Int) (m : Int) (g : Nat) (w : World) (hcl : w.cell? ⟨g, 0, none⟩ = some (.int .i64 m)) (hr0 : Kd.C (Kd.int .i64) w A0 l0.length l0) (hc0 : l0.length ≤ c0) :
    Calls Try.prog 82 #[.slice A0 l0.length c0, .func (.func 60) #[] #[.pointer (some ⟨g, 0, none⟩)]] w fun e w' => ∃ i : Int, e = .returned (.int .i64 i) ∧ Aside0 (outIdx l0 m i) ∧ Drawn0 w w' := by
  have HR0 := Aside0.mk hr0
  have hm : l0.length ≤ 9223372036854775807 := hr0.2.1
  have hcd : ∀ n, (w.drewN n).cell? ⟨g, 0, none⟩ = some (.int .i64 m) := fun n => by simpa using hcl
  have HCD := Aside0.mk hcd
  clear hr0 hc0 hcl hcd
  go_enter Try.func82, Try.ntmps82
  go_wp2
  go_loopg [8] (l0.length + 1) (fun kq v8 w' => ∃ i : Int, v8 = .int .i64 i ∧ Aside0 (0 ≤ i ∧ i ≤ (l0.length : Int) ∧ (kq : Int) = (l0.length : Int) + 1 - i ∧ ∀ j : Int, 0 ≤ j → j < i → 0 ≤ rd l0 j ∧ rd l0 j < m) ∧ Drawn0 w w')
  case atStart => exact ⟨0, rfl, ⟨by omega, by omega, by omega, fun j h h' => absurd h (by omega)⟩, by repeat (first | exact Drawn0.refl _ | apply Drawn0.step)⟩
  case round =>
    obtain ⟨i, rfl, HA, ⟨m1, rfl⟩⟩ := hrel
    by_cases hlt : i < (l0.length : Int)
    · have p : 0 ≤ i := HA.out.1
      obtain ⟨ad, e, hx⟩ := Kd.at_int HR0.out i p hlt
      cases e
      replace p := eq_true p
      have q0 : decide (i < (l0.length : Int)) = true := decide_eq_true hlt
      have HLT := Aside0.mk hlt
      replace hlt := eq_true hlt
      by_cases c : rd l0 i < 0 ∨ m ≤ rd l0 i
      · have HC := Aside0.mk c
        have hd := Aside0.mk (decide_eq_true c)
        clear c
        go_wp2_with (go_at_call 60; (with_reducible refine (out_one (rd l0 i) m g _ (by first | exact HCD.out _ | exact HCD.out 0)).mono ?_); rintro e w' ⟨rfl, ⟨nd, rfl⟩⟩; rw [hd.out])
        go_ret
        exact ⟨i, rfl, ⟨.inl ⟨HA.out.1, _, rd_in l0 i HA.out.1 HLT.out, HC.out⟩⟩, by repeat (first | exact Drawn0.refl _ | apply Drawn0.step)⟩
      · have HC := Aside0.mk c
        have hd := Aside0.mk (decide_eq_false c)
        clear c
        go_wp2_with (go_at_call 60; (with_reducible refine (out_one (rd l0 i) m g _ (by first | exact HCD.out _ | exact HCD.out 0)).mono ?_); rintro e w' ⟨rfl, ⟨nd, rfl⟩⟩; rw [hd.out])
        have hw : wrap64 (i + 1) = i + 1 := by have := HA.out; have := HLT.out; unfold wrap64; omega
        go_roundg (gk - 1)
        case measure => have := HA.out; have := HLT.out; omega
        case rel =>
          refine ⟨i + 1, by simp [hw], ⟨by have := HA.out; omega, by have := HLT.out; omega, by have := HA.out; have := HLT.out; omega, fun j h h' => ?_⟩, by repeat (first | exact Drawn0.refl _ | apply Drawn0.step)⟩
          by_cases e : j = i
          · subst e; have := HC.out; omega
          · exact HA.out.2.2.2 j h (by omega)
    · have q0 : decide (i < (l0.length : Int)) = false := decide_eq_false hlt
      have HLT := Aside0.mk hlt
      clear hlt
      go_wp2
      go_ret
      exact ⟨-1, rfl, ⟨.inr ⟨rfl, fun x hx => by
        obtain ⟨j, h0, h1, e⟩ := in_rd l0 x hx
        rw [← e]
        exact HA.out.2.2.2 j h0 (by have := HLT.out; omega)⟩⟩, by repeat (first | exact Drawn0.refl _ | apply Drawn0.step)⟩
theorem out_contains (A0 : Option Addr) (c0 : Nat) (l0 : List Int) (m : Int) (g : Nat) (w : World) (hcl : w.cell? ⟨g, 0, none⟩ = some (.int .i64 m)) (hr0 : Kd.C (Kd.int .i64) w A0 l0.length l0) (hc0 : l0.length ≤ c0) :
    Calls Try.prog 59 #[.slice A0 l0.length c0, .func (.func 60) #[] #[.pointer (some ⟨g, 0, none⟩)]] w fun e w' => e = .returned (.bool (outB l0 m)) ∧ Drawn0 w w' := by
  have HR0 := Aside0.mk hr0
  have HC0 := Aside0.mk hc0
  have HCL := Aside0.mk hcl
  clear hr0 hc0 hcl
  go_enter Try.func59, Try.ntmps59
  go_wp2_with (go_at_call 82; (with_reducible refine (out_index A0 c0 l0 m g _ ?s0 ?s1 HC0.out).mono ?_); (case s0 => first | exact HCL.out | simpa using HCL.out); (case s1 => repeat (first | exact HR0.out | (with_reducible refine Kd.C_drewN ?_ _) | (with_reducible refine Kd.C_drew ?_))); rintro e w' ⟨i, rfl, HI, ⟨nd, rfl⟩⟩)
  have hfin : decide (0 ≤ i) = outB l0 m := by
    unfold outB
    rcases HI.out with ⟨h0, x, hx, hb⟩ | ⟨rfl, h⟩
    · rw [decide_eq_true h0, decide_eq_true ⟨x, hx, hb⟩]
    · rw [decide_eq_false (show ¬ (0 : Int) ≤ -1 by decide), decide_eq_false (fun ⟨x, hx, hb⟩ => by have := h x hx; omega)]
  have HF := Aside0.mk hfin
  clear hfin
  go_ret
  exact ⟨by rw [← HF.out]; rfl, by repeat (first | exact Drawn0.refl _ | apply Drawn0.step)⟩
def slices_ContainsFunc_int_int.f (l0 : List Int) (a1 : Int) : Option Bool := some (outB l0 a1)
/-- A list of lines, asked by the function that holds their number in memory. -/
theorem slices_ContainsFunc_int_int.calls (A0 : Option Addr) (c0 : Nat) (l0 : List Int) (a1 : Int) (r : Bool) (w : World) (hr0 : Kd.C (Kd.int .i64) w A0 l0.length l0) (hc0 : l0.length ≤ c0) (h : slices_ContainsFunc_int_int.f l0 a1 = some r) {g : Nat}
    (hcl : w.cell? ⟨g, 0, none⟩ = some (.int .i64 a1) := by (refine (blk_cell (cs := #[.int .i64 _]) (t := 3) ?_ 0).trans (by with_unfolding_all rfl)); (repeat (first | refine blk_drewN ?_ _ | refine blk_drew ?_ | refine blk_alloc ?_ _)); exact Aside0.out (by assumption)) :
    Calls Try.prog 59 #[.slice A0 l0.length c0, .func (.func 60) #[] #[.pointer (some ⟨g, 0, none⟩)]] w fun e w' => e = .returned (.bool r) ∧ Drawn0 w w' := by
  obtain rfl := Option.some.inj h
  exact out_contains A0 c0 l0 a1 g w hcl hr0 hc0

end Go.Proofs.Ytaopbkbjfmfcdaa.P
