/- What functions of the program come to, each with the proof that it does, laid by a program of this session out of the translation; no condition is set on any claim. -/
import Derived.Test.YtiamngcapghmdaaPSg0
import Derived.Test.YtiamngcapghmdaaPSg1
import Derived.Test.YtiamngcapghmdaaPSg2
import Derived.Test.YtiamngcapghmdaaPSg3
import Derived.Test.YtiamngcapghmdaaPSg4
import Derived.Test.YtiamngcapghmdaaPSg5
namespace Go.Proofs.Ytiamngcapghmdaa.P
open Go.RowKit Go.Proofs.YtiamngcapghmdaaW.PrintWords Go.Proofs.YtiamngcapghmdaaW.PrintLast Go.Proofs.YtiamngcapghmdaaW.PrintMore
attribute [local go_sem] max2_int min2_int max_two min_two max_three min_three max_four min_four   -- for this text's walks alone
set_option linter.unusedVariables false
set_option linter.unusedSimpArgs false


theorem qa74 {α : Type} (l : List α) (i : Nat) (a : α) : l.toArray.setIfInBounds i a = (l.set i a).toArray := List.setIfInBounds_toArray ..
theorem qb74 {α : Type} (x a : α) (l : List α) : (x :: l).set 0 a = a :: l := rfl
theorem qc74 {α : Type} (x a : α) (l : List α) (n : Nat) : (x :: l).set (n + 1) a = x :: l.set n a := rfl
/-! ### impl_divided: function 74 -/
def impl_divided.f (a0 : Int) (a1 : Int) : Option (Int × Int) := (impl_size.f a1).bind fun t101 => (if t101 = 0 then (none) else ((impl_size.f a1).bind fun t102 => (if (wrap64 (2 * (Int.tmod a0 t101))) > t102 then ((impl_size.f a1).bind fun t103 => (if a1 = 0 then (none) else (some (wrap64 (Int.tdiv (wrap64 (a0 - (wrap64 ((Int.tmod a0 t101) - t103)))) a1), wrap64 ((Int.tmod a0 t101) - t103))))) else ((impl_size.f a1).bind fun t104 => (if (wrap64 (2 * (Int.tmod a0 t101))) ≤ (wrap64 (-t104)) then ((impl_size.f a1).bind fun t105 => (if a1 = 0 then (none) else (some (wrap64 (Int.tdiv (wrap64 (a0 - (wrap64 ((Int.tmod a0 t101) + t105)))) a1), wrap64 ((Int.tmod a0 t101) + t105))))) else (if a1 = 0 then (none) else (some (wrap64 (Int.tdiv (wrap64 (a0 - (Int.tmod a0 t101))) a1), Int.tmod a0 t101))))))))
set_option maxHeartbeats 8000000 in
set_option maxRecDepth 100000 in
theorem impl_divided.calls (a0 : Int) (a1 : Int) (r1 : Int) (r2 : Int) (w : World) (h : impl_divided.f a0 a1 = some (r1, r2)) :
  Calls Try.prog 74 #[.int .i64 a0, .int .i64 a1] w fun e w' => e = .returned (.tuple #[.int .i64 r1, .int .i64 r2]) ∧ Below w.heap.size w w' := by
 have HB := am (Below.refl w.heap.size w)
 have H : ((impl_size.f a1).bind fun t101 => (if t101 = 0 then (none) else ((impl_size.f a1).bind fun t102 => (if (wrap64 (2 * (Int.tmod a0 t101))) > t102 then ((impl_size.f a1).bind fun t103 => (if a1 = 0 then (none) else (some (wrap64 (Int.tdiv (wrap64 (a0 - (wrap64 ((Int.tmod a0 t101) - t103)))) a1), wrap64 ((Int.tmod a0 t101) - t103))))) else ((impl_size.f a1).bind fun t104 => (if (wrap64 (2 * (Int.tmod a0 t101))) ≤ (wrap64 (-t104)) then ((impl_size.f a1).bind fun t105 => (if a1 = 0 then (none) else (some (wrap64 (Int.tdiv (wrap64 (a0 - (wrap64 ((Int.tmod a0 t101) + t105)))) a1), wrap64 ((Int.tmod a0 t101) + t105))))) else (if a1 = 0 then (none) else (some (wrap64 (Int.tdiv (wrap64 (a0 - (Int.tmod a0 t101))) a1), Int.tmod a0 t101))))))))) = some (r1, r2) := h
 clear h
 replace H := Option.bind_eq_some_iff.mp H
 obtain ⟨t101, A30, H⟩ := H
 replace H : (if t101 = 0 then (none) else ((impl_size.f a1).bind fun t102 => (if (wrap64 (2 * (Int.tmod a0 t101))) > t102 then ((impl_size.f a1).bind fun t103 => (if a1 = 0 then (none) else (some (wrap64 (Int.tdiv (wrap64 (a0 - (wrap64 ((Int.tmod a0 t101) - t103)))) a1), wrap64 ((Int.tmod a0 t101) - t103))))) else ((impl_size.f a1).bind fun t104 => (if (wrap64 (2 * (Int.tmod a0 t101))) ≤ (wrap64 (-t104)) then ((impl_size.f a1).bind fun t105 => (if a1 = 0 then (none) else (some (wrap64 (Int.tdiv (wrap64 (a0 - (wrap64 ((Int.tmod a0 t101) + t105)))) a1), wrap64 ((Int.tmod a0 t101) + t105))))) else (if a1 = 0 then (none) else (some (wrap64 (Int.tdiv (wrap64 (a0 - (Int.tmod a0 t101))) a1), Int.tmod a0 t101)))))))) = some (r1, r2) := H
 have A3 := am A30; clear A30
 by_cases c4 : t101 = 0
 ·rw [if_pos c4] at H
  exact absurd H (by simp)
 ·rw [if_neg c4] at H
  have c4b0 : (t101 == 0) = false := beq_eq_false_iff_ne.mpr c4
  have c4b1 : (t101 != 0) = true := bne_iff_ne.mpr c4
  replace H := Option.bind_eq_some_iff.mp H
  obtain ⟨t102, A50, H⟩ := H
  replace H : (if (wrap64 (2 * (Int.tmod a0 t101))) > t102 then ((impl_size.f a1).bind fun t103 => (if a1 = 0 then (none) else (some (wrap64 (Int.tdiv (wrap64 (a0 - (wrap64 ((Int.tmod a0 t101) - t103)))) a1), wrap64 ((Int.tmod a0 t101) - t103))))) else ((impl_size.f a1).bind fun t104 => (if (wrap64 (2 * (Int.tmod a0 t101))) ≤ (wrap64 (-t104)) then ((impl_size.f a1).bind fun t105 => (if a1 = 0 then (none) else (some (wrap64 (Int.tdiv (wrap64 (a0 - (wrap64 ((Int.tmod a0 t101) + t105)))) a1), wrap64 ((Int.tmod a0 t101) + t105))))) else (if a1 = 0 then (none) else (some (wrap64 (Int.tdiv (wrap64 (a0 - (Int.tmod a0 t101))) a1), Int.tmod a0 t101)))))) = some (r1, r2) := H
  have A5 := am A50; clear A50
  obtain rfl : t101 = t102 := Option.some.inj (A3.out.symm.trans A5.out)
  by_cases c6 : (wrap64 (2 * (Int.tmod a0 t101))) > t101
  ·rw [if_pos c6] at H
   have c6b0 : decide (t101 < (wrap64 (2 * (Int.tmod a0 t101)))) = true := decide_eq_true c6
   clear c6
   replace H := Option.bind_eq_some_iff.mp H
   obtain ⟨t103, A70, H⟩ := H
   replace H : (if a1 = 0 then (none) else (some (wrap64 (Int.tdiv (wrap64 (a0 - (wrap64 ((Int.tmod a0 t101) - t103)))) a1), wrap64 ((Int.tmod a0 t101) - t103)))) = some (r1, r2) := H
   have A7 := am A70; clear A70
   obtain rfl : t101 = t103 := Option.some.inj (A3.out.symm.trans A7.out)
   by_cases c8 : a1 = 0
   ·rw [if_pos c8] at H
    exact absurd H (by simp)
   ·rw [if_neg c8] at H
    have c8b0 : (a1 == 0) = false := beq_eq_false_iff_ne.mpr c8
    have c8b1 : (a1 != 0) = true := bne_iff_ne.mpr c8
    simp only [Option.some.injEq, Prod.mk.injEq] at H
    obtain ⟨rfl, rfl⟩ := H
    go_enter Try.func74, Try.ntmps74
    go_wp2_with (first | ((with_reducible refine gate_callee (f := 89) rfl ?_); refine goesL_ (some 9) rfl rfl Try.func89 (by kernel_rfl) rfl #[.int .i64 a1] rfl bE ?_; (with_reducible refine (impl_size.calls a1 t101 _ A3.out).mono ?_); rintro e w9 ⟨rfl, hb⟩; refine ⟨_, rfl, ?_⟩; have n0_ := am (below_step (bB HB.out) hb); clear HB; have HB := n0_; clear n0_; (try clear hb); (try clear hb2); (try clear hk); (try clear hi); clear A3) | ((with_reducible refine gate_callee (f := 89) rfl ?_); refine goesL_ (some 15) rfl rfl Try.func89 (by kernel_rfl) rfl #[.int .i64 a1] rfl bE ?_; (with_reducible refine (impl_size.calls a1 t101 _ A5.out).mono ?_); rintro e w10 ⟨rfl, hb⟩; refine ⟨_, rfl, ?_⟩; have n0_ := am (below_step (bB HB.out) hb); clear HB; have HB := n0_; clear n0_; (try clear hb); (try clear hb2); (try clear hk); (try clear hi); clear A5) | ((with_reducible refine gate_callee (f := 89) rfl ?_); refine goesL_ (some 19) rfl rfl Try.func89 (by kernel_rfl) rfl #[.int .i64 a1] rfl bE ?_; (with_reducible refine (impl_size.calls a1 t101 _ A7.out).mono ?_); rintro e w11 ⟨rfl, hb⟩; refine ⟨_, rfl, ?_⟩; have n0_ := am (below_step (bB HB.out) hb); clear HB; have HB := n0_; clear n0_; (try clear hb); (try clear hb2); (try clear hk); (try clear hi); clear A7))
    go_ret2
    exact ⟨by first | rfl | (simp [errW_none, errW_some] <;> rfl) | (simp [*, errW_none, errW_some] <;> rfl), bB HB.out⟩
  ·rw [if_neg c6] at H
   have c6b0 : decide (t101 < (wrap64 (2 * (Int.tmod a0 t101)))) = false := decide_eq_false c6
   clear c6
   replace H := Option.bind_eq_some_iff.mp H
   obtain ⟨t104, A120, H⟩ := H
   replace H : (if (wrap64 (2 * (Int.tmod a0 t101))) ≤ (wrap64 (-t104)) then ((impl_size.f a1).bind fun t105 => (if a1 = 0 then (none) else (some (wrap64 (Int.tdiv (wrap64 (a0 - (wrap64 ((Int.tmod a0 t101) + t105)))) a1), wrap64 ((Int.tmod a0 t101) + t105))))) else (if a1 = 0 then (none) else (some (wrap64 (Int.tdiv (wrap64 (a0 - (Int.tmod a0 t101))) a1), Int.tmod a0 t101)))) = some (r1, r2) := H
   have A12 := am A120; clear A120
   obtain rfl : t101 = t104 := Option.some.inj (A3.out.symm.trans A12.out)
   by_cases c13 : (wrap64 (2 * (Int.tmod a0 t101))) ≤ (wrap64 (-t101))
   ·rw [if_pos c13] at H
    have c13b0 : decide ((wrap64 (2 * (Int.tmod a0 t101))) ≤ (wrap64 (-t101))) = true := decide_eq_true c13
    clear c13
    replace H := Option.bind_eq_some_iff.mp H
    obtain ⟨t105, A140, H⟩ := H
    replace H : (if a1 = 0 then (none) else (some (wrap64 (Int.tdiv (wrap64 (a0 - (wrap64 ((Int.tmod a0 t101) + t105)))) a1), wrap64 ((Int.tmod a0 t101) + t105)))) = some (r1, r2) := H
    have A14 := am A140; clear A140
    obtain rfl : t101 = t105 := Option.some.inj (A3.out.symm.trans A14.out)
    by_cases c15 : a1 = 0
    ·rw [if_pos c15] at H
     exact absurd H (by simp)
    ·rw [if_neg c15] at H
     have c15b0 : (a1 == 0) = false := beq_eq_false_iff_ne.mpr c15
     have c15b1 : (a1 != 0) = true := bne_iff_ne.mpr c15
     simp only [Option.some.injEq, Prod.mk.injEq] at H
     obtain ⟨rfl, rfl⟩ := H
     go_enter Try.func74, Try.ntmps74
     go_wp2_with (first | ((with_reducible refine gate_callee (f := 89) rfl ?_); refine goesL_ (some 9) rfl rfl Try.func89 (by kernel_rfl) rfl #[.int .i64 a1] rfl bE ?_; (with_reducible refine (impl_size.calls a1 t101 _ A3.out).mono ?_); rintro e w16 ⟨rfl, hb⟩; refine ⟨_, rfl, ?_⟩; have n0_ := am (below_step (bB HB.out) hb); clear HB; have HB := n0_; clear n0_; (try clear hb); (try clear hb2); (try clear hk); (try clear hi); clear A3) | ((with_reducible refine gate_callee (f := 89) rfl ?_); refine goesL_ (some 15) rfl rfl Try.func89 (by kernel_rfl) rfl #[.int .i64 a1] rfl bE ?_; (with_reducible refine (impl_size.calls a1 t101 _ A5.out).mono ?_); rintro e w17 ⟨rfl, hb⟩; refine ⟨_, rfl, ?_⟩; have n0_ := am (below_step (bB HB.out) hb); clear HB; have HB := n0_; clear n0_; (try clear hb); (try clear hb2); (try clear hk); (try clear hi); clear A5) | ((with_reducible refine gate_callee (f := 89) rfl ?_); refine goesL_ (some 25) rfl rfl Try.func89 (by kernel_rfl) rfl #[.int .i64 a1] rfl bE ?_; (with_reducible refine (impl_size.calls a1 t101 _ A12.out).mono ?_); rintro e w18 ⟨rfl, hb⟩; refine ⟨_, rfl, ?_⟩; have n0_ := am (below_step (bB HB.out) hb); clear HB; have HB := n0_; clear n0_; (try clear hb); (try clear hb2); (try clear hk); (try clear hi); clear A12) | ((with_reducible refine gate_callee (f := 89) rfl ?_); refine goesL_ (some 30) rfl rfl Try.func89 (by kernel_rfl) rfl #[.int .i64 a1] rfl bE ?_; (with_reducible refine (impl_size.calls a1 t101 _ A14.out).mono ?_); rintro e w19 ⟨rfl, hb⟩; refine ⟨_, rfl, ?_⟩; have n0_ := am (below_step (bB HB.out) hb); clear HB; have HB := n0_; clear n0_; (try clear hb); (try clear hb2); (try clear hk); (try clear hi); clear A14))
     go_ret2
     exact ⟨by first | rfl | (simp [errW_none, errW_some] <;> rfl) | (simp [*, errW_none, errW_some] <;> rfl), bB HB.out⟩
   ·rw [if_neg c13] at H
    have c13b0 : decide ((wrap64 (2 * (Int.tmod a0 t101))) ≤ (wrap64 (-t101))) = false := decide_eq_false c13
    clear c13
    by_cases c20 : a1 = 0
    ·rw [if_pos c20] at H
     exact absurd H (by simp)
    ·rw [if_neg c20] at H
     have c20b0 : (a1 == 0) = false := beq_eq_false_iff_ne.mpr c20
     have c20b1 : (a1 != 0) = true := bne_iff_ne.mpr c20
     simp only [Option.some.injEq, Prod.mk.injEq] at H
     obtain ⟨rfl, rfl⟩ := H
     go_enter Try.func74, Try.ntmps74
     go_wp2_with (first | ((with_reducible refine gate_callee (f := 89) rfl ?_); refine goesL_ (some 9) rfl rfl Try.func89 (by kernel_rfl) rfl #[.int .i64 a1] rfl bE ?_; (with_reducible refine (impl_size.calls a1 t101 _ A3.out).mono ?_); rintro e w21 ⟨rfl, hb⟩; refine ⟨_, rfl, ?_⟩; have n0_ := am (below_step (bB HB.out) hb); clear HB; have HB := n0_; clear n0_; (try clear hb); (try clear hb2); (try clear hk); (try clear hi); clear A3) | ((with_reducible refine gate_callee (f := 89) rfl ?_); refine goesL_ (some 15) rfl rfl Try.func89 (by kernel_rfl) rfl #[.int .i64 a1] rfl bE ?_; (with_reducible refine (impl_size.calls a1 t101 _ A5.out).mono ?_); rintro e w22 ⟨rfl, hb⟩; refine ⟨_, rfl, ?_⟩; have n0_ := am (below_step (bB HB.out) hb); clear HB; have HB := n0_; clear n0_; (try clear hb); (try clear hb2); (try clear hk); (try clear hi); clear A5) | ((with_reducible refine gate_callee (f := 89) rfl ?_); refine goesL_ (some 25) rfl rfl Try.func89 (by kernel_rfl) rfl #[.int .i64 a1] rfl bE ?_; (with_reducible refine (impl_size.calls a1 t101 _ A12.out).mono ?_); rintro e w23 ⟨rfl, hb⟩; refine ⟨_, rfl, ?_⟩; have n0_ := am (below_step (bB HB.out) hb); clear HB; have HB := n0_; clear n0_; (try clear hb); (try clear hb2); (try clear hk); (try clear hi); clear A12))
     go_ret2
     exact ⟨by first | rfl | (simp [errW_none, errW_some] <;> rfl) | (simp [*, errW_none, errW_some] <;> rfl), bB HB.out⟩


theorem qa43 {α : Type} (l : List α) (i : Nat) (a : α) : l.toArray.setIfInBounds i a = (l.set i a).toArray := List.setIfInBounds_toArray ..
theorem qb43 {α : Type} (x a : α) (l : List α) : (x :: l).set 0 a = a :: l := rfl
theorem qc43 {α : Type} (x a : α) (l : List α) (n : Nat) : (x :: l).set (n + 1) a = x :: l.set n a := rfl
abbrev q43_0 : Array Bool := #[false, false, false, false, false, false, false, false, false, false, false, false, false, false]
abbrev q43_1 : Array Bool := #[true, false, false, false, false, false, false, false, false, false, false, false, false, false]
abbrev q43_2 : Array Bool := #[true, false, false, false, false, true, false, false, false, false, false, false, false, false]
abbrev q43_3 : Array Bool := #[true, true, false, false, false, true, false, false, false, false, false, false, false, false]
abbrev q43_4 : Array Bool := #[true, true, false, false, false, true, true, false, false, false, false, false, false, false]
abbrev q43_5 : Array Bool := #[true, true, true, false, false, true, true, false, false, false, false, false, false, false]
abbrev q43_6 : Array Bool := #[true, true, true, true, false, true, true, false, false, false, false, false, false, false]
abbrev q43_7 : Array Bool := #[true, true, true, true, true, true, true, false, false, false, false, false, false, false]
abbrev q43_8 : Array Bool := #[true, true, true, true, true, true, true, true, false, false, false, false, false, false]
abbrev q43_9 : Array Bool := #[true, true, true, true, true, true, true, true, true, false, false, false, false, false]
abbrev q43_10 : Array Bool := #[true, true, true, true, true, true, true, true, true, true, false, false, false, false]
abbrev q43_11 : Array Bool := #[true, true, true, true, true, true, true, true, true, true, true, false, false, false]
abbrev q43_12 : Array Bool := #[true, true, true, true, true, true, true, true, true, true, true, true, false, false]
abbrev q43_13 : Array Bool := #[true, true, true, true, true, true, true, true, true, true, true, true, true, false]
abbrev q43_14 : Array Bool := #[true, true, true, true, true, true, true, true, true, true, true, true, true, true]
/-! ### impl_DivFloats: function 43 -/
def impl_DivFloats.j0 : Nat → Bool → List Int → Int → List Int → Int → Option (List Int × Int × Bool)
 | 0, _, _, _, _, _ => none
 | k + 1, x21, x102000, x102001, x103000, x103001 => if x21 = true then (some (([] : List Int), 0, false)) else ((impl_value.f k x102000).bind fun t107 => ((impl_power.f k 9).bind fun t108 => ((impl_value.f k x103000).bind fun t109 => ((impl_divided.f (wrap64 (t107 * t108)) t109).bind fun bt110 => ((impl_floated.f k bt110.1 (wrap64 ((wrap64 (x102001 - x103001)) - 9))).bind fun bt112 => (some (bt112.1, bt112.2.1, bt112.2.2)))))))
def impl_DivFloats.f (k : Nat) (l0_0 : List Int) (a0_1 : Int) (l1_0 : List Int) (a1_1 : Int) : Option (List Int × Int × Bool) := (impl_IsFloat.f k l0_0 a0_1).bind fun t104 => (if t104 = true then ((impl_IsFloat.f k l1_0 a1_1).bind fun t105 => (if t105 = true then ((impl_highest.f k l1_0).bind fun t106 => (impl_DivFloats.j0 k (t106 == 0) l0_0 a0_1 l1_0 a1_1)) else (impl_DivFloats.j0 k true l0_0 a0_1 l1_0 a1_1))) else (impl_DivFloats.j0 k true l0_0 a0_1 l1_0 a1_1))
theorem impl_DivFloats.mono_l : ∀ k, (∀ y0 y1 y2 y3 y4, LeO (impl_DivFloats.j0 k y0 y1 y2 y3 y4) (impl_DivFloats.j0 (k + 1) y0 y1 y2 y3 y4))
 | 0 => fun _ _ _ _ _ r h => by simp [impl_DivFloats.j0] at h
 | k + 1 => by
  have ih0 := impl_DivFloats.mono_l k
  ·intro y0 y1 y2 y3 y4
   unfold impl_DivFloats.j0
   repeat' first
   | (with_reducible exact ih0 _ _ _ _ _)
   | (with_reducible exact impl_IsFloat.mono _ _ _)
   | (with_reducible exact impl_floated.mono _ _ _)
   | (with_reducible exact impl_highest.mono _ _)
   | (with_reducible exact impl_power.mono _ _)
   | (with_reducible exact impl_value.mono _ _)
   | (with_reducible exact LeO.refl _)
   | (with_reducible exact LeO.none _)
   | (with_reducible refine LeO.ite ?_ ?_)
   | (with_reducible refine LeO.bind ?_ (fun _ => ?_))
   | exact ih0 _ _ _ _ _
   | exact impl_IsFloat.mono _ _ _
   | exact impl_floated.mono _ _ _
   | exact impl_highest.mono _ _
   | exact impl_power.mono _ _
   | exact impl_value.mono _ _
   | exact LeO.none _
   | refine LeO.ite ?_ ?_
   | refine LeO.bind ?_ (fun _ => ?_)
theorem impl_DivFloats.mono : ∀ a0 a1 a2 a3 k, LeO (impl_DivFloats.f k a0 a1 a2 a3) (impl_DivFloats.f (k + 1) a0 a1 a2 a3) := by
 intro a0 a1 a2 a3 k
 have ih0 := impl_DivFloats.mono_l k
 unfold impl_DivFloats.f
 repeat' first
   | (with_reducible exact ih0 _ _ _ _ _)
   | (with_reducible exact impl_IsFloat.mono _ _ _)
   | (with_reducible exact impl_floated.mono _ _ _)
   | (with_reducible exact impl_highest.mono _ _)
   | (with_reducible exact impl_power.mono _ _)
   | (with_reducible exact impl_value.mono _ _)
   | (with_reducible exact LeO.refl _)
   | (with_reducible exact LeO.none _)
   | (with_reducible refine LeO.ite ?_ ?_)
   | (with_reducible refine LeO.bind ?_ (fun _ => ?_))
   | exact ih0 _ _ _ _ _
   | exact impl_IsFloat.mono _ _ _
   | exact impl_floated.mono _ _ _
   | exact impl_highest.mono _ _
   | exact impl_power.mono _ _
   | exact impl_value.mono _ _
   | exact LeO.none _
   | refine LeO.ite ?_ ?_
   | refine LeO.bind ?_ (fun _ => ?_)
def impl_DivFloats.T3 : Bool × List (List Nat × List Nat) := (true, [([], []), ([0], [0]), ([1], [1]), ([2], []), ([2, 3], [2, 3]), ([], []), ([5], [5]), ([6, 3], [6]), ([4, 7, 7], [4, 7]), ([8], [8]), ([9], [9]), ([9], [9]), ([10, 8, 0, 1, 2, 3, 4, 5, 6, 7, 8, 9, 10], [10]), ([11, 12, 0, 1, 2, 3, 4, 5, 6, 7, 8, 9, 10, 11, 12], [11])])
def impl_DivFloats.B3 : List Nat := [0, 1, 3, 7, 15, 0, 32, 111, 255, 511, 1023, 1023, 2047, 8191]
theorem impl_DivFloats.tab3 : rtab .any (opsOf Try.f43 3) = impl_DivFloats.T3 := by kernel_rfl
theorem impl_DivFloats.bits3 : waitsOk impl_DivFloats.T3.2 impl_DivFloats.B3 = true := by kernel_rfl
set_option maxHeartbeats 8000000 in
set_option maxRecDepth 100000 in
theorem impl_DivFloats.calls (k : Nat) (A0_0 : Option Addr) (c0_0 : Nat) (l0_0 : List Int) (a0_1 : Int) (A1_0 : Option Addr) (c1_0 : Nat) (l1_0 : List Int) (a1_1 : Int) (r1 : List Int) (r2 : Int) (r3 : Bool) (w : World) (hr0_0 : Kd.C (Kd.int .i64) w A0_0 l0_0.length l0_0) (hc0_0 : l0_0.length ≤ c0_0) (hr1_0 : Kd.C (Kd.int .i64) w A1_0 l1_0.length l1_0) (hc1_0 : l1_0.length ≤ c1_0) (h : impl_DivFloats.f k l0_0 a0_1 l1_0 a1_1 = some (r1, r2, r3)) :
  Calls Try.prog 43 #[.agg #[.slice A0_0 l0_0.length c0_0, .int .i64 a0_1], .agg #[.slice A1_0 l1_0.length c1_0, .int .i64 a1_1]] w fun e w' => ∃ v0_ : Value, e = .returned (.tuple #[.agg #[v0_, .int .i64 r2], .bool r3]) ∧ Kd.R (Kd.int .i64) 3 w' w.heap.size (fun _ => True) v0_ r1 ∧ Below w.heap.size w w' := by
 have hu27 := Try.underlying27; have HR0_0 := am hr0_0; have HC0_0 := am hc0_0; clear hr0_0 hc0_0; have HR1_0 := am hr1_0; have HC1_0 := am hc1_0; clear hr1_0 hc1_0; have HB := am (Below.refl w.heap.size w)
 have H : ((impl_IsFloat.f k l0_0 a0_1).bind fun t104 => (if t104 = true then ((impl_IsFloat.f k l1_0 a1_1).bind fun t105 => (if t105 = true then ((impl_highest.f k l1_0).bind fun t106 => (impl_DivFloats.j0 k (t106 == 0) l0_0 a0_1 l1_0 a1_1)) else (impl_DivFloats.j0 k true l0_0 a0_1 l1_0 a1_1))) else (impl_DivFloats.j0 k true l0_0 a0_1 l1_0 a1_1))) = some (r1, r2, r3) := h
 clear h; have HC3 := am H; clear H
 go_enter Try.func43, Try.ntmps43
 go_upto_region 1 with (first | ((with_reducible refine gate_dst (N := 2) rfl ?_); refine box_event ?hg (N := 2) ?hd (cs := #[.slice A0_0 l0_0.length c0_0, .int .i64 a0_1]) (t := 27) ?hr ?_; (case hd => rfl); (case hg => rfl); (case hr => first | (go_simp; done) | (go_simp; rfl)); intro gb101 hg w4 hbox hb; have n0_ := am (below_step (bB HB.out) hb); have n1_ := am (hbox); have n2_ := am ((by rw [hg]; exact (below_size (bB HB.out)) : w.heap.size ≤ gb101)); have n3_ := am ((by rw [hg]; exact (below_size (bB HB.out)) : w.heap.size ≤ gb101)); clear HB; have HB := n0_; have BK101 := n1_; have GW101 := n2_; have GE101 := n3_; clear n0_ n1_ n2_ n3_; clear hb hbox hg) | ((with_reducible refine gate_dst (N := 3) rfl ?_); refine box_event ?hg (N := 3) ?hd (cs := #[.slice A1_0 l1_0.length c1_0, .int .i64 a1_1]) (t := 27) ?hr ?_; (case hd => rfl); (case hg => rfl); (case hr => first | (go_simp; done) | (go_simp; rfl)); intro gb102 hg w5 hbox hb; have n0_ := am (blk_below (bA BK101.out) hb); have n1_ := am (below_step (bB HB.out) hb); have n2_ := am (hbox); have n3_ := am ((by rw [hg]; exact (below_size (bB HB.out)) : w.heap.size ≤ gb102)); have n4_ := am ((by rw [hg]; exact (below_size (bB HB.out)) : w.heap.size ≤ gb102)); have n5_ := am ((by rw [hg]; exact Nat.ne_of_lt (blk_lt (g := gb101) (o := .cells #[.slice A0_0 l0_0.length c0_0, .int .i64 a0_1] 27 (0, 0)) (bA BK101.out)) : gb101 ≠ gb102)); have n6_ := am ((by rw [hg]; exact Nat.ne_of_gt (blk_lt (g := gb101) (o := .cells #[.slice A0_0 l0_0.length c0_0, .int .i64 a0_1] 27 (0, 0)) (bA BK101.out)) : gb102 ≠ gb101)); clear BK101; clear HB; have BK101 := n0_; have HB := n1_; have BK102 := n2_; have GW102 := n3_; have GE102 := n4_; have NB101_102 := n5_; have NB102_101 := n6_; clear n0_ n1_ n2_ n3_ n4_ n5_ n6_; clear hb hbox hg) | ((with_reducible refine gate_dst (N := 4) rfl ?_); refine box_event ?hg (N := 4) ?hd (cs := #[.slice none 0 0, .int .i64 0]) (t := 27) ?hr ?_; (case hd => rfl); (case hg => rfl); (case hr => first | (go_simp; done) | (go_simp; rfl)); intro gb103 hg w6 hbox hb; have n0_ := am (blk_below (bA BK101.out) hb); have n1_ := am (blk_below (bA BK102.out) hb); have n2_ := am (below_step (bB HB.out) hb); have n3_ := am (hbox); have n4_ := am ((by rw [hg]; exact (below_size (bB HB.out)) : w.heap.size ≤ gb103)); have n5_ := am ((by rw [hg]; exact (below_size (bB HB.out)) : w.heap.size ≤ gb103)); have n6_ := am ((by rw [hg]; exact Nat.ne_of_lt (blk_lt (g := gb101) (o := .cells #[.slice A0_0 l0_0.length c0_0, .int .i64 a0_1] 27 (0, 0)) (bA BK101.out)) : gb101 ≠ gb103)); have n7_ := am ((by rw [hg]; exact Nat.ne_of_gt (blk_lt (g := gb101) (o := .cells #[.slice A0_0 l0_0.length c0_0, .int .i64 a0_1] 27 (0, 0)) (bA BK101.out)) : gb103 ≠ gb101)); have n8_ := am ((by rw [hg]; exact Nat.ne_of_lt (blk_lt (g := gb102) (o := .cells #[.slice A1_0 l1_0.length c1_0, .int .i64 a1_1] 27 (0, 0)) (bA BK102.out)) : gb102 ≠ gb103)); have n9_ := am ((by rw [hg]; exact Nat.ne_of_gt (blk_lt (g := gb102) (o := .cells #[.slice A1_0 l1_0.length c1_0, .int .i64 a1_1] 27 (0, 0)) (bA BK102.out)) : gb103 ≠ gb102)); clear BK101; clear BK102; clear HB; have BK101 := n0_; have BK102 := n1_; have HB := n2_; have BK103 := n3_; have GW103 := n4_; have GE103 := n5_; have NB101_103 := n6_; have NB103_101 := n7_; have NB102_103 := n8_; have NB103_102 := n9_; clear n0_ n1_ n2_ n3_ n4_ n5_ n6_ n7_ n8_ n9_; clear hb hbox hg))
 (try simp only [Act.put, qa43, qb43, qc43])
 go_cut [21] (fun v21 wc => ∃ (kq : Nat) (x21_2 : Bool), v21 = .bool x21_2 ∧ Aside0 (impl_DivFloats.j0 kq x21_2 l0_0 a0_1 l1_0 a1_1 = some (r1, r2, r3)) ∧ Aside0 (kq ≤ k) ∧ Aside0 (wc.heap[gb101]? = some (.cells #[(.slice A0_0 l0_0.length c0_0), .int .i64 a0_1] 27 (0, 0))) ∧ Aside0 (wc.heap[gb102]? = some (.cells #[(.slice A1_0 l1_0.length c1_0), .int .i64 a1_1] 27 (0, 0))) ∧ Aside0 (wc.heap[gb103]? = some (.cells #[(.slice none 0 0), .int .i64 0] 27 (0, 0))) ∧ Aside0 (Below w.heap.size w wc))
 case first =>
  have H := HC3.out; clear HC3
  replace H := Option.bind_eq_some_iff.mp H
  obtain ⟨t104, A70, H⟩ := H
  replace H : (if t104 = true then ((impl_IsFloat.f k l1_0 a1_1).bind fun t105 => (if t105 = true then ((impl_highest.f k l1_0).bind fun t106 => (impl_DivFloats.j0 k (t106 == 0) l0_0 a0_1 l1_0 a1_1)) else (impl_DivFloats.j0 k true l0_0 a0_1 l1_0 a1_1))) else (impl_DivFloats.j0 k true l0_0 a0_1 l1_0 a1_1)) = some (r1, r2, r3) := H
  have A7 := am A70; clear A70
  by_cases c8 : t104 = true
  ·subst c8
   have H1 : ((impl_IsFloat.f k l1_0 a1_1).bind fun t105 => (if t105 = true then ((impl_highest.f k l1_0).bind fun t106 => (impl_DivFloats.j0 k (t106 == 0) l0_0 a0_1 l1_0 a1_1)) else (impl_DivFloats.j0 k true l0_0 a0_1 l1_0 a1_1))) = some (r1, r2, r3) := by rw [if_pos rfl] at H; exact H
   clear H; have H := H1; clear H1
   replace H := Option.bind_eq_some_iff.mp H
   obtain ⟨t105, A90, H⟩ := H
   replace H : (if t105 = true then ((impl_highest.f k l1_0).bind fun t106 => (impl_DivFloats.j0 k (t106 == 0) l0_0 a0_1 l1_0 a1_1)) else (impl_DivFloats.j0 k true l0_0 a0_1 l1_0 a1_1)) = some (r1, r2, r3) := H
   have A9 := am A90; clear A90
   by_cases c10 : t105 = true
   ·subst c10
    have H1 : ((impl_highest.f k l1_0).bind fun t106 => (impl_DivFloats.j0 k (t106 == 0) l0_0 a0_1 l1_0 a1_1)) = some (r1, r2, r3) := by rw [if_pos rfl] at H; exact H
    clear H; have H := H1; clear H1
    replace H := Option.bind_eq_some_iff.mp H
    obtain ⟨t106, A110, H⟩ := H
    replace H : (impl_DivFloats.j0 k (t106 == 0) l0_0 a0_1 l1_0 a1_1) = some (r1, r2, r3) := H
    have A11 := am A110; clear A110
    have H' := am H
    clear H; have hnb12 := NB101_102.out; have hnc12 := NB102_101.out; have hnb13 := NB101_103.out; have hnc13 := NB103_101.out
    have hcz14_0 : w6.cell? ⟨gb101, 0, none⟩ = some (.slice A0_0 l0_0.length c0_0) := (blk_cell BK101.out 0).trans rfl
    have hcz14_1 : w6.cell? ⟨gb101, 1, none⟩ = some (.int .i64 a0_1) := (blk_cell BK101.out 1).trans rfl
    have hfz14_0 := blk_frozen BK101.out 0; have hfz14_1 := blk_frozen BK101.out 1
    go_wp2_with (first | ((with_reducible refine gate_callee (f := 18) rfl ?_); refine goesL_ (some 9) rfl rfl Try.func18 (by kernel_rfl) rfl #[.agg #[.slice A0_0 l0_0.length c0_0, .int .i64 a0_1]] rfl bE ?_; (with_reducible refine (impl_IsFloat.calls k _ _ l0_0 a0_1 true _ ?side1 ?side2 A7.out).mono ?_); (case side1 => exact bD ((Kd.C_below HR0_0.out HB.out))); (case side2 => exact HC0_0.out); rintro e w15 ⟨rfl, hb⟩; refine ⟨_, rfl, ?_⟩; have n0_ := am (blk_below (bA BK101.out) hb); have n1_ := am (blk_below (bA BK102.out) hb); have n2_ := am (blk_below (bA BK103.out) hb); have n3_ := am (below_step (bB HB.out) hb); clear BK101; clear BK102; clear BK103; clear HB; have BK101 := n0_; have BK102 := n1_; have BK103 := n2_; have HB := n3_; clear n0_ n1_ n2_ n3_; (try clear hb); (try clear hb2); (try clear hk); (try clear hi); clear A7; have hnb16 := NB102_103.out; have hnc16 := NB103_102.out; have hcz17_0 : w15.cell? ⟨gb102, 0, none⟩ = some (.slice A1_0 l1_0.length c1_0) := (blk_cell BK102.out 0).trans rfl; have hcz17_1 : w15.cell? ⟨gb102, 1, none⟩ = some (.int .i64 a1_1) := (blk_cell BK102.out 1).trans rfl; have hfz17_0 := blk_frozen BK102.out 0; have hfz17_1 := blk_frozen BK102.out 1) | (go_at_call 18; (with_reducible refine (impl_IsFloat.calls k _ _ l1_0 a1_1 true _ ?side1 ?side2 A9.out).mono ?_); (case side1 => exact bD ((Kd.C_below HR1_0.out HB.out))); (case side2 => exact HC1_0.out); rintro e w18 ⟨rfl, hb⟩; have n0_ := am (blk_below (bA BK101.out) hb); have n1_ := am (blk_below (bA BK102.out) hb); have n2_ := am (blk_below (bA BK103.out) hb); have n3_ := am (below_step (bB HB.out) hb); clear BK101; clear BK102; clear BK103; clear HB; have BK101 := n0_; have BK102 := n1_; have BK103 := n2_; have HB := n3_; clear n0_ n1_ n2_ n3_; (try clear hb); (try clear hb2); (try clear hk); (try clear hi); clear A9; have hcz19_0 : w18.cell? ⟨gb102, 0, none⟩ = some (.slice A1_0 l1_0.length c1_0) := (blk_cell BK102.out 0).trans rfl; have hcz19_1 : w18.cell? ⟨gb102, 1, none⟩ = some (.int .i64 a1_1) := (blk_cell BK102.out 1).trans rfl; have hfz19_0 := blk_frozen BK102.out 0; have hfz19_1 := blk_frozen BK102.out 1) | (go_at_call 53; (with_reducible refine (impl_highest.calls k _ _ l1_0 t106 _ ?side1 ?side2 A11.out).mono ?_); (case side1 => exact bD ((Kd.C_below HR1_0.out HB.out))); (case side2 => exact HC1_0.out); rintro e w' ⟨rfl, ⟨nd, rfl⟩⟩))
    go_meet
    case rel => exact ⟨_, ((t106 == 0)), (by first | rfl | (simp; done) | (simp [*]; done)), H', ⟨by first | omega | exact Nat.le_refl _⟩, ⟨bA BK101.out⟩, ⟨bA BK102.out⟩, ⟨bA BK103.out⟩, ⟨bB HB.out⟩⟩
   ·replace c10 := Bool.eq_false_iff.mpr c10
    subst c10
    have H1 : (impl_DivFloats.j0 k true l0_0 a0_1 l1_0 a1_1) = some (r1, r2, r3) := by rw [if_neg (show ¬ (false = true) by decide)] at H; exact H
    clear H; have H := H1; clear H1
    have H' := am H
    clear H; have hnb20 := NB101_102.out; have hnc20 := NB102_101.out; have hnb21 := NB101_103.out; have hnc21 := NB103_101.out
    have hcz22_0 : w6.cell? ⟨gb101, 0, none⟩ = some (.slice A0_0 l0_0.length c0_0) := (blk_cell BK101.out 0).trans rfl
    have hcz22_1 : w6.cell? ⟨gb101, 1, none⟩ = some (.int .i64 a0_1) := (blk_cell BK101.out 1).trans rfl
    have hfz22_0 := blk_frozen BK101.out 0; have hfz22_1 := blk_frozen BK101.out 1
    go_wp2_with (first | ((with_reducible refine gate_callee (f := 18) rfl ?_); refine goesL_ (some 9) rfl rfl Try.func18 (by kernel_rfl) rfl #[.agg #[.slice A0_0 l0_0.length c0_0, .int .i64 a0_1]] rfl bE ?_; (with_reducible refine (impl_IsFloat.calls k _ _ l0_0 a0_1 true _ ?side1 ?side2 A7.out).mono ?_); (case side1 => exact bD ((Kd.C_below HR0_0.out HB.out))); (case side2 => exact HC0_0.out); rintro e w23 ⟨rfl, hb⟩; refine ⟨_, rfl, ?_⟩; have n0_ := am (blk_below (bA BK101.out) hb); have n1_ := am (blk_below (bA BK102.out) hb); have n2_ := am (blk_below (bA BK103.out) hb); have n3_ := am (below_step (bB HB.out) hb); clear BK101; clear BK102; clear BK103; clear HB; have BK101 := n0_; have BK102 := n1_; have BK103 := n2_; have HB := n3_; clear n0_ n1_ n2_ n3_; (try clear hb); (try clear hb2); (try clear hk); (try clear hi); clear A7; have hnb24 := NB102_103.out; have hnc24 := NB103_102.out; have hcz25_0 : w23.cell? ⟨gb102, 0, none⟩ = some (.slice A1_0 l1_0.length c1_0) := (blk_cell BK102.out 0).trans rfl; have hcz25_1 : w23.cell? ⟨gb102, 1, none⟩ = some (.int .i64 a1_1) := (blk_cell BK102.out 1).trans rfl; have hfz25_0 := blk_frozen BK102.out 0; have hfz25_1 := blk_frozen BK102.out 1) | (go_at_call 18; (with_reducible refine (impl_IsFloat.calls k _ _ l1_0 a1_1 false _ ?side1 ?side2 A9.out).mono ?_); (case side1 => exact bD ((Kd.C_below HR1_0.out HB.out))); (case side2 => exact HC1_0.out); rintro e w26 ⟨rfl, hb⟩; have n0_ := am (blk_below (bA BK101.out) hb); have n1_ := am (blk_below (bA BK102.out) hb); have n2_ := am (blk_below (bA BK103.out) hb); have n3_ := am (below_step (bB HB.out) hb); clear BK101; clear BK102; clear BK103; clear HB; have BK101 := n0_; have BK102 := n1_; have BK103 := n2_; have HB := n3_; clear n0_ n1_ n2_ n3_; (try clear hb); (try clear hb2); (try clear hk); (try clear hi); clear A9))
    go_meet
    case rel => exact ⟨_, (true), (by first | rfl | (simp; done) | (simp [*]; done)), H', ⟨by first | omega | exact Nat.le_refl _⟩, ⟨bA BK101.out⟩, ⟨bA BK102.out⟩, ⟨bA BK103.out⟩, ⟨bB HB.out⟩⟩
  ·replace c8 := Bool.eq_false_iff.mpr c8
   subst c8
   have H1 : (impl_DivFloats.j0 k true l0_0 a0_1 l1_0 a1_1) = some (r1, r2, r3) := by rw [if_neg (show ¬ (false = true) by decide)] at H; exact H
   clear H; have H := H1; clear H1
   have H' := am H
   clear H; have hnb27 := NB101_102.out; have hnc27 := NB102_101.out; have hnb28 := NB101_103.out; have hnc28 := NB103_101.out
   have hcz29_0 : w6.cell? ⟨gb101, 0, none⟩ = some (.slice A0_0 l0_0.length c0_0) := (blk_cell BK101.out 0).trans rfl
   have hcz29_1 : w6.cell? ⟨gb101, 1, none⟩ = some (.int .i64 a0_1) := (blk_cell BK101.out 1).trans rfl
   have hfz29_0 := blk_frozen BK101.out 0; have hfz29_1 := blk_frozen BK101.out 1
   go_wp2_with (first | ((with_reducible refine gate_callee (f := 18) rfl ?_); refine goesL_ (some 9) rfl rfl Try.func18 (by kernel_rfl) rfl #[.agg #[.slice A0_0 l0_0.length c0_0, .int .i64 a0_1]] rfl bE ?_; (with_reducible refine (impl_IsFloat.calls k _ _ l0_0 a0_1 false _ ?side1 ?side2 A7.out).mono ?_); (case side1 => exact bD ((Kd.C_below HR0_0.out HB.out))); (case side2 => exact HC0_0.out); rintro e w30 ⟨rfl, hb⟩; refine ⟨_, rfl, ?_⟩; have n0_ := am (blk_below (bA BK101.out) hb); have n1_ := am (blk_below (bA BK102.out) hb); have n2_ := am (blk_below (bA BK103.out) hb); have n3_ := am (below_step (bB HB.out) hb); clear BK101; clear BK102; clear BK103; clear HB; have BK101 := n0_; have BK102 := n1_; have BK103 := n2_; have HB := n3_; clear n0_ n1_ n2_ n3_; (try clear hb); (try clear hb2); (try clear hk); (try clear hi)))
   go_meet
   case rel => exact ⟨_, (true), (by first | rfl | (simp; done) | (simp [*]; done)), H', ⟨by first | omega | exact Nat.le_refl _⟩, ⟨bA BK101.out⟩, ⟨bA BK102.out⟩, ⟨bA BK103.out⟩, ⟨bB HB.out⟩⟩
 case rest =>
  clear HC3
  try clear c1
  try clear c2
  try clear p2
  try clear c4
  try clear c8
  try clear c10
  try clear c12
  try clear c13
  try clear c16
  try clear c18
  try clear c20
  try clear c21
  try clear c24
  try clear c27
  try clear c28
  try clear hcz14_0
  try clear hcz14_1
  try clear hcz17_0
  try clear hcz17_1
  try clear hcz19_0
  try clear hcz19_1
  try clear hcz22_0
  try clear hcz22_1
  try clear hcz25_0
  try clear hcz25_1
  try clear hcz29_0
  try clear hcz29_1
  try clear hfz14_0
  try clear hfz14_1
  try clear hfz17_0
  try clear hfz17_1
  try clear hfz19_0
  try clear hfz19_1
  try clear hfz22_0
  try clear hfz22_1
  try clear hfz25_0
  try clear hfz25_1
  try clear hfz29_0
  try clear hfz29_1
  obtain ⟨kq, x21_2, rfl, HA, HJ2, BK101, BK102, BK103, HB⟩ := hcut
  cases kq with
  | zero => exact absurd HA.out (by simp [impl_DivFloats.j0])
  | succ kj2 =>
   have H := HA.out; clear HA
   simp only [impl_DivFloats.j0] at H
   by_cases c31 : x21_2 = true
   ·subst c31
    have H1 : (some (([] : List Int), 0, false)) = some (r1, r2, r3) := by rw [if_pos rfl] at H; exact H
    clear H; have H := H1; clear H1
    simp only [Option.some.injEq, Prod.mk.injEq] at H
    obtain ⟨rfl, rfl, rfl⟩ := H
    have hnb32 := NB103_101.out; have hnc32 := NB101_103.out; have hnb33 := NB103_102.out; have hnc33 := NB102_103.out
    have hcz34_0 : wc.cell? ⟨gb103, 0, none⟩ = some (.slice none 0 0) := (blk_cell BK103.out 0).trans rfl
    have hcz34_1 : wc.cell? ⟨gb103, 1, none⟩ = some (.int .i64 0) := (blk_cell BK103.out 1).trans rfl
    have hfz34_0 := blk_frozen BK103.out 0; have hfz34_1 := blk_frozen BK103.out 1
    go_wp2
    refine bodyPost_ret (results_ct rfl _ _ gb103 27 #[.slice none 0 0, .int .i64 0] (0, 0) _ rfl (by (with_reducible repeat (first | refine blk_drewN ?_ _ | refine blk_drew ?_ | refine blk_alloc ?_ _)); refine blk_put (cs := #[.slice none 0 0, .int .i64 0]) ?_ 1 _ rfl; (with_reducible repeat (first | refine blk_drewN ?_ _ | refine blk_drew ?_ | refine blk_alloc ?_ _)); refine blk_put (cs := #[.slice none 0 0, .int .i64 0]) ?_ 0 _ rfl; (with_reducible repeat (first | refine blk_drewN ?_ _ | refine blk_drew ?_ | refine blk_alloc ?_ _)); exact BK103.out) Try.underlying27 rfl (by kernel_rfl)) rfl ?_
    exact ⟨_, by first | rfl | (simp [errW_none, errW_some] <;> rfl) | (simp [*, errW_none, errW_some] <;> rfl), by first | exact Kd.R_nil _ _ _ _ _ | exact Kd.N_nil _ _ _ _ _ | exact Kd.V_nil _ _ _ _ _ | exact Kd.Q_nil _ _ _ _ _ | exact Kd.S_nil _ _ _ _ _, bB HB.out⟩
   ·replace c31 := Bool.eq_false_iff.mpr c31
    subst c31
    have H1 : ((impl_value.f kj2 l0_0).bind fun t107 => ((impl_power.f kj2 9).bind fun t108 => ((impl_value.f kj2 l1_0).bind fun t109 => ((impl_divided.f (wrap64 (t107 * t108)) t109).bind fun bt110 => ((impl_floated.f kj2 bt110.1 (wrap64 ((wrap64 (a0_1 - a1_1)) - 9))).bind fun bt112 => (some (bt112.1, bt112.2.1, bt112.2.2))))))) = some (r1, r2, r3) := by rw [if_neg (show ¬ (false = true) by decide)] at H; exact H
    clear H; have H := H1; clear H1
    replace H := Option.bind_eq_some_iff.mp H
    obtain ⟨t107, A350, H⟩ := H
    replace H : ((impl_power.f kj2 9).bind fun t108 => ((impl_value.f kj2 l1_0).bind fun t109 => ((impl_divided.f (wrap64 (t107 * t108)) t109).bind fun bt110 => ((impl_floated.f kj2 bt110.1 (wrap64 ((wrap64 (a0_1 - a1_1)) - 9))).bind fun bt112 => (some (bt112.1, bt112.2.1, bt112.2.2)))))) = some (r1, r2, r3) := H
    have A35 := am A350; clear A350
    replace H := Option.bind_eq_some_iff.mp H
    obtain ⟨t108, A360, H⟩ := H
    replace H : ((impl_value.f kj2 l1_0).bind fun t109 => ((impl_divided.f (wrap64 (t107 * t108)) t109).bind fun bt110 => ((impl_floated.f kj2 bt110.1 (wrap64 ((wrap64 (a0_1 - a1_1)) - 9))).bind fun bt112 => (some (bt112.1, bt112.2.1, bt112.2.2))))) = some (r1, r2, r3) := H
    have A36 := am A360; clear A360
    replace H := Option.bind_eq_some_iff.mp H
    obtain ⟨t109, A370, H⟩ := H
    replace H : ((impl_divided.f (wrap64 (t107 * t108)) t109).bind fun bt110 => ((impl_floated.f kj2 bt110.1 (wrap64 ((wrap64 (a0_1 - a1_1)) - 9))).bind fun bt112 => (some (bt112.1, bt112.2.1, bt112.2.2)))) = some (r1, r2, r3) := H
    have A37 := am A370; clear A370
    replace H := Option.bind_eq_some_iff.mp H
    obtain ⟨⟨t110, t111⟩, A380, H⟩ := H
    replace H : ((impl_floated.f kj2 t110 (wrap64 ((wrap64 (a0_1 - a1_1)) - 9))).bind fun bt112 => (some (bt112.1, bt112.2.1, bt112.2.2))) = some (r1, r2, r3) := H
    have A38 := am A380; clear A380
    replace H := Option.bind_eq_some_iff.mp H
    obtain ⟨⟨t112, t115, t116⟩, A390, H⟩ := H
    replace H : (some (t112, t115, t116)) = some (r1, r2, r3) := H
    have A39 := am A390; clear A390
    simp only [Option.some.injEq, Prod.mk.injEq] at H
    obtain ⟨rfl, rfl, rfl⟩ := H
    try go_wp2
    have n0_ := am (blk_drew BK101.out); have n1_ := am (blk_drew BK102.out); have n2_ := am (blk_drew BK103.out); have n3_ := am (below_drew1 HB.out); clear BK101; clear BK102; clear BK103; clear HB; have BK101 := n0_; have BK102 := n1_; have BK103 := n2_; have HB := n3_; clear n0_ n1_ n2_ n3_
    refine start_ (n := 14) (S := fun w' => w'.cell? ⟨gb101, 0, none⟩ = some (.slice A0_0 l0_0.length c0_0) ∧ w'.cell? ⟨gb101, 1, none⟩ = some (.int .i64 a0_1) ∧ w'.cell? ⟨gb102, 0, none⟩ = some (.slice A1_0 l1_0.length c1_0) ∧ w'.cell? ⟨gb102, 1, none⟩ = some (.int .i64 a1_1)) (ds := []) q43_0 (by kernel_rfl) rfl rfl ⟨(blk_cell BK101.out 0).trans rfl, (blk_cell BK101.out 1).trans rfl, (blk_cell BK102.out 0).trans rfl, (blk_cell BK102.out 1).trans rfl⟩ (fun hHeld => ?_); refine with_tabW impl_DivFloats.tab3 impl_DivFloats.bits3 (fun HT_ HW_ => ?_)
    generalize wc.drew = w40 at BK101 BK102 BK103 HB hHeld ⊢
    refine pure_ (i := 0) (N := some 24) (v := ?_) (a' := ?_) q43_1 rfl rfl (any_of HT_.out (by kernel_rfl)) (fun _ _ _ h => h) (Or.inl ⟨by rfl, ?_⟩) ?_ ?_; rotate_left
    ·intro w'
     go_simp; with_reducible rfl
    rotate_left
    ·simp only [Act.put, qa43, qb43, qc43, i64_w, i32_w]
     rfl
    refine pure_ (i := 5) (N := some 29) (v := ?_) (a' := ?_) q43_2 rfl rfl (any_of HT_.out (by kernel_rfl)) (fun _ _ _ h => h) (Or.inl ⟨by rfl, ?_⟩) ?_ ?_; rotate_left
    ·intro w'
     go_simp; with_reducible rfl
    rotate_left
    ·simp only [Act.put, qa43, qb43, qc43, i64_w, i32_w]
     rfl
    refine take_ (i := 1) (N := some 25) (v := ?_) (a' := ?_) q43_3 rfl rfl (take_ofW HT_.out HW_.out (by kernel_rfl)) (fun _ _ _ h => h) (Or.inl ⟨by rfl, ?_⟩) hHeld ?_ ?_; rotate_left
    ·rintro w' ⟨s0, s1, s2, s3⟩
     go_simp; with_reducible rfl
    rotate_left
    ·simp only [Act.put, qa43, qb43, qc43, i64_w, i32_w]
     rfl
    refine take_ (i := 6) (N := some 30) (v := ?_) (a' := ?_) q43_4 rfl rfl (take_ofW HT_.out HW_.out (by kernel_rfl)) (fun _ _ _ h => h) (Or.inl ⟨by rfl, ?_⟩) hHeld ?_ ?_; rotate_left
    ·rintro w' ⟨s0, s1, s2, s3⟩
     go_simp; with_reducible rfl
    rotate_left
    ·simp only [Act.put, qa43, qb43, qc43, i64_w, i32_w]
     rfl
    refine one_ (i := 2) (N := some 26) q43_5 rfl rfl (one_of HT_.out (by kernel_rfl)) (by decide) (fun K hK => ?_)
    refine goes_ Try.func57 (by kernel_rfl) rfl #[.slice A0_0 l0_0.length c0_0] (by rfl) rfl rfl bE ?_
    with_reducible refine (impl_value.calls kj2 _ _ l0_0 t107 _ ?side1 ?side2 A35.out).mono ?_
    (case side1 => exact bD ((Kd.C_below HR0_0.out HB.out)))
    (case side2 => exact HC0_0.out)
    rintro e w' ⟨rfl, ⟨nd, rfl⟩⟩
    refine ⟨_, rfl, ?_⟩
    refine hK.out _ _ ⟨(blk_cell BK101.out 0).trans rfl, (blk_cell BK101.out 1).trans rfl, (blk_cell BK102.out 0).trans rfl, (blk_cell BK102.out 1).trans rfl⟩ (fun hHeld => ?_)
    clear hK K
    refine norm_ (a' := ?_) ?_ ?_; rotate_left
    ·show Act.put _ (some 26) _ = _
     simp only [Act.put, qa43, qb43, qc43, i64_w, i32_w]
     rfl
    refine one_ (i := 3) (N := some 27) q43_6 rfl rfl (one_of HT_.out (by kernel_rfl)) (by decide) (fun K hK => ?_)
    refine goes_ Try.func59 (by kernel_rfl) rfl #[.int .i64 9] (by rfl) rfl rfl bE ?_
    with_reducible refine (impl_power.calls kj2 9 t108 _ A36.out).mono ?_
    rintro e w' ⟨rfl, ⟨nd, rfl⟩⟩
    refine ⟨_, rfl, ?_⟩
    refine hK.out _ _ ⟨(blk_cell BK101.out 0).trans rfl, (blk_cell BK101.out 1).trans rfl, (blk_cell BK102.out 0).trans rfl, (blk_cell BK102.out 1).trans rfl⟩ (fun hHeld => ?_)
    clear hK K
    refine norm_ (a' := ?_) ?_ ?_; rotate_left
    ·show Act.put _ (some 27) _ = _
     simp only [Act.put, qa43, qb43, qc43, i64_w, i32_w]
     rfl
    refine pure_ (i := 4) (N := some 28) (v := ?_) (a' := ?_) q43_7 rfl rfl (any_of HT_.out (by kernel_rfl)) (fun _ _ _ h => h) (Or.inl ⟨by rfl, ?_⟩) ?_ ?_; rotate_left
    ·intro w'
     go_simp; with_reducible rfl
    rotate_left
    ·simp only [Act.put, qa43, qb43, qc43, i64_w, i32_w]
     rfl
    refine one_ (i := 7) (N := some 31) q43_8 rfl rfl (one_of HT_.out (by kernel_rfl)) (by decide) (fun K hK => ?_)
    refine goes_ Try.func57 (by kernel_rfl) rfl #[.slice A1_0 l1_0.length c1_0] (by rfl) rfl rfl bE ?_
    with_reducible refine (impl_value.calls kj2 _ _ l1_0 t109 _ ?side1 ?side2 A37.out).mono ?_
    (case side1 => exact bD ((Kd.C_below HR1_0.out (bB HB.out))))
    (case side2 => exact HC1_0.out)
    rintro e w' ⟨rfl, ⟨nd, rfl⟩⟩
    refine ⟨_, rfl, ?_⟩
    refine hK.out _ _ ⟨(blk_cell BK101.out 0).trans rfl, (blk_cell BK101.out 1).trans rfl, (blk_cell BK102.out 0).trans rfl, (blk_cell BK102.out 1).trans rfl⟩ (fun hHeld => ?_)
    clear hK K
    refine norm_ (a' := ?_) ?_ ?_; rotate_left
    ·show Act.put _ (some 31) _ = _
     simp only [Act.put, qa43, qb43, qc43, i64_w, i32_w]
     rfl
    refine one_ (i := 8) (N := some 32) q43_9 rfl rfl (one_of HT_.out (by kernel_rfl)) (by decide) (fun K hK => ?_)
    refine goes_ Try.func74 (by kernel_rfl) rfl #[.int .i64 (wrap64 (t107 * t108)), .int .i64 t109] (by rfl) rfl rfl bE ?_
    with_reducible refine (impl_divided.calls (wrap64 (t107 * t108)) t109 t110 t111 _ A38.out).mono ?_
    rintro e w41 ⟨rfl, hb⟩
    refine ⟨_, rfl, ?_⟩
    have n0_ := am (blk_below (bA BK101.out) hb); have n1_ := am (blk_below (bA BK102.out) hb); have n2_ := am (blk_below (bA BK103.out) hb); have n3_ := am (below_step (bB HB.out) hb); clear BK101; clear BK102; clear BK103; clear HB; have BK101 := n0_; have BK102 := n1_; have BK103 := n2_; have HB := n3_; clear n0_ n1_ n2_ n3_; (try clear hb); (try clear hb2); (try clear hk); (try clear hi)
    refine hK.out _ _ ⟨(blk_cell BK101.out 0).trans rfl, (blk_cell BK101.out 1).trans rfl, (blk_cell BK102.out 0).trans rfl, (blk_cell BK102.out 1).trans rfl⟩ (fun hHeld => ?_)
    clear hK K
    refine norm_ (a' := ?_) ?_ ?_; rotate_left
    ·show Act.put _ (some 32) _ = _
     simp only [Act.put, qa43, qb43, qc43, i64_w, i32_w]
     rfl
    refine pure_ (i := 9) (N := some 23) (v := ?_) (a' := ?_) q43_10 rfl rfl (any_of HT_.out (by kernel_rfl)) (fun _ _ _ h => h) (Or.inl ⟨by rfl, ?_⟩) ?_ ?_; rotate_left
    ·intro w'
     go_simp; with_reducible rfl
    rotate_left
    ·simp only [Act.put, qa43, qb43, qc43, i64_w, i32_w]
     rfl
    refine pure_ (i := 10) (N := some 33) (v := ?_) (a' := ?_) q43_11 rfl rfl (any_of HT_.out (by kernel_rfl)) (fun _ _ _ h => h) (Or.inl ⟨by rfl, ?_⟩) ?_ ?_; rotate_left
    ·intro w'
     go_simp; with_reducible rfl
    rotate_left
    ·simp only [Act.put, qa43, qb43, qc43, i64_w, i32_w]
     rfl
    refine pure_ (i := 11) (N := some 34) (v := ?_) (a' := ?_) q43_12 rfl rfl (any_of HT_.out (by kernel_rfl)) (fun _ _ _ h => h) (Or.inl ⟨by rfl, ?_⟩) ?_ ?_; rotate_left
    ·intro w'
     go_simp; with_reducible rfl
    rotate_left
    ·simp only [Act.put, qa43, qb43, qc43, i64_w, i32_w]
     rfl
    refine pure_ (i := 12) (N := some 6) (v := ?_) (a' := ?_) q43_13 rfl rfl (any_of HT_.out (by kernel_rfl)) (fun _ _ _ h => h) (Or.inl ⟨by rfl, ?_⟩) ?_ ?_; rotate_left
    ·intro w'
     go_simp; with_reducible rfl
    rotate_left
    ·simp only [Act.put, qa43, qb43, qc43, i64_w, i32_w]
     rfl
    refine pure_ (i := 13) (N := some 7) (v := ?_) (a' := ?_) q43_14 rfl rfl (any_of HT_.out (by kernel_rfl)) (fun _ _ _ h => h) (Or.inl ⟨by rfl, ?_⟩) ?_ ?_; rotate_left
    ·intro w'
     go_simp; with_reducible rfl
    rotate_left
    ·simp only [Act.put, qa43, qb43, qc43, i64_w, i32_w]
     rfl
    refine done_ (done_of HT_.out (by kernel_rfl)) ?_
    have hnb42 := NB101_102.out; have hnc42 := NB102_101.out; have hnb43 := NB101_103.out; have hnc43 := NB103_101.out
    have hcz44_0 : w41.cell? ⟨gb101, 0, none⟩ = some (.slice A0_0 l0_0.length c0_0) := (blk_cell BK101.out 0).trans rfl
    have hcz44_1 : w41.cell? ⟨gb101, 1, none⟩ = some (.int .i64 a0_1) := (blk_cell BK101.out 1).trans rfl
    have hfz44_0 := blk_frozen BK101.out 0; have hfz44_1 := blk_frozen BK101.out 1; have hnb45 := NB102_103.out; have hnc45 := NB103_102.out
    have hcz46_0 : w41.cell? ⟨gb102, 0, none⟩ = some (.slice A1_0 l1_0.length c1_0) := (blk_cell BK102.out 0).trans rfl
    have hcz46_1 : w41.cell? ⟨gb102, 1, none⟩ = some (.int .i64 a1_1) := (blk_cell BK102.out 1).trans rfl
    have hfz46_0 := blk_frozen BK102.out 0; have hfz46_1 := blk_frozen BK102.out 1
    try go_wp2_with (first | ((with_reducible refine gate_callee (f := 55) rfl ?_); refine goesL_ (some 42) rfl rfl Try.func55 (by kernel_rfl) rfl #[.int .i64 t110, .int .i64 (wrap64 ((wrap64 (a0_1 - a1_1)) - 9))] rfl bE ?_; (with_reducible refine (impl_floated.calls kj2 t110 (wrap64 ((wrap64 (a0_1 - a1_1)) - 9)) t112 t115 t116 _ A39.out).mono ?_); rintro e w47 ⟨v113, rfl, ho0, hb⟩; refine ⟨_, rfl, ?_⟩; have n0_ := am (Kd.R_lower ho0 (below_size (bB HB.out))); have n1_ := am (blk_below (bA BK101.out) hb); have n2_ := am (blk_below (bA BK102.out) hb); have n3_ := am (blk_below (bA BK103.out) hb); have n4_ := am (below_step (bB HB.out) hb); clear BK101; clear BK102; clear BK103; clear HB; have HO114 := n0_; have BK101 := n1_; have BK102 := n2_; have BK103 := n3_; have HB := n4_; clear n0_ n1_ n2_ n3_ n4_; (try clear hb); (try clear hb2); (try clear hk); (try clear hi); (try clear ho0); obtain ⟨Ao48, co48, eo48⟩ := Kd.R_slice HO114.out; subst eo48; have hcz49_0 : w47.cell? ⟨gb103, 0, none⟩ = some (.slice none 0 0) := (blk_cell BK103.out 0).trans rfl; have hcz49_1 : w47.cell? ⟨gb103, 1, none⟩ = some (.int .i64 0) := (blk_cell BK103.out 1).trans rfl; have hfz49_0 := blk_frozen BK103.out 0; have hfz49_1 := blk_frozen BK103.out 1))
    refine bodyPost_ret (results_ct rfl _ _ gb103 27 #[.slice Ao48 t112.length co48, .int .i64 t115] (0, 0) _ rfl (by (with_reducible repeat (first | refine blk_drewN ?_ _ | refine blk_drew ?_ | refine blk_alloc ?_ _)); refine blk_put (cs := #[.slice Ao48 t112.length co48, .int .i64 0]) ?_ 1 _ rfl; (with_reducible repeat (first | refine blk_drewN ?_ _ | refine blk_drew ?_ | refine blk_alloc ?_ _)); refine blk_put (cs := #[.slice none 0 0, .int .i64 0]) ?_ 0 _ rfl; (with_reducible repeat (first | refine blk_drewN ?_ _ | refine blk_drew ?_ | refine blk_alloc ?_ _)); exact BK103.out) Try.underlying27 rfl (by kernel_rfl)) rfl ?_
    exact ⟨_, by first | rfl | (simp [errW_none, errW_some] <;> rfl) | (simp [*, errW_none, errW_some] <;> rfl), by (with_reducible repeat (first | apply Kd.R_alloc | apply Kd.R_drewN | apply Kd.R_drew)); exact Kd.R_mono (Kd.R_far (p := ⟨gb103, 1, none⟩) (Kd.R_far (p := ⟨gb103, 0, none⟩) (Kd.R_types HO114.out BK103.out (by decide)) (fun _ hk => hk.2) (.slice Ao48 t112.length co48)) (fun _ hk => hk.2) (.int .i64 t115)) (fun _ hk => trivial), bB HB.out⟩

end Go.Proofs.Ytiamngcapghmdaa.P
