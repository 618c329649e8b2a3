/- What functions of the program come to, each with the proof that it does, laid by a program of this session out of the translation; no condition is set on any claim. -/
import Derived.Test.YtiamngcapghmdaaPSs9
import Derived.Test.YtiamngcapghmdaaPSs8
import Derived.Test.YtiamngcapghmdaaPSs0
import Derived.Test.YtiamngcapghmdaaPSs3
import Derived.Test.YtiamngcapghmdaaPSs4
import Derived.Test.YtiamngcapghmdaaPSs5
import Derived.Test.YtiamngcapghmdaaPSs6
namespace Go.Proofs.Ytiamngcapghmdaa.P
open Go.RowKit Go.Proofs.YtiamngcapghmdaaW.PrintWords Go.Proofs.YtiamngcapghmdaaW.PrintLast Go.Proofs.YtiamngcapghmdaaW.PrintMore
attribute [local go_sem] max2_int min2_int max_two min_two max_three min_three max_four min_four   -- for this text's walks alone
set_option linter.unusedVariables false
set_option linter.unusedSimpArgs false
set_option maxHeartbeats 8000000 in
set_option maxRecDepth 100000 in
theorem laws_FnFloatSums.calls (k : Nat) (A0 : Option Addr) (c0 : Nat) (l0 : List Int) (r : Bool) (w : World) (hr0 : Kd.C (Kd.int .u8) w A0 l0.length l0) (hc0 : l0.length ≤ c0) (h : laws_FnFloatSums.f k l0 = some r) (hT : r = true) :
  Calls Try.prog 9 #[.slice A0 l0.length c0] w fun e w' => e = .returned (.bool r) ∧ Below w.heap.size w w' := by
 have hu27 := Try.underlying27; have HR0 := am hr0; have HC0 := am hc0; clear hr0 hc0; have HB := am (Below.refl w.heap.size w)
 have H : (if (l0.length : Int) > 1048576 then (some true) else ((spec_MakeFloating.f k l0).bind fun bt101 => ((laws_fresh.f k l0 3).bind fun t106 => ((spec_MakeFloating.f k t106).bind fun bt109 => ((impl_FloatOf.f k 0 0).bind fun bt114 => ((impl_AddFloats.f k bt101.1 bt101.2 bt109.1 bt109.2).bind fun bt120 => ((impl_AddFloats.f k bt109.1 bt109.2 bt101.1 bt101.2).bind fun bt126 => ((impl_SubFloats.f k bt101.1 bt101.2 bt109.1 bt109.2).bind fun bt132 => ((impl_NegateFloat.f k bt109.1 bt109.2).bind fun bt138 => ((impl_AddFloats.f k bt101.1 bt101.2 bt138.1 bt138.2).bind fun bt142 => ((impl_SubFloats.f k bt101.1 bt101.2 bt101.1 bt101.2).bind fun bt148 => ((impl_AddFloats.f k bt101.1 bt101.2 bt114.1 bt114.2.1).bind fun bt154 => ((impl_NegateFloat.f k bt101.1 bt101.2).bind fun bt160 => ((impl_NegateFloat.f k bt109.1 bt109.2).bind fun bt164 => ((impl_AddFloats.f k bt160.1 bt160.2 bt164.1 bt164.2).bind fun bt168 => (if bt114.2.2 = true then (if (bt120.2.2 == bt126.2.2) = true then (if (bt132.2.2 == bt142.2.2) = true then (if bt148.2.2 = true then (if bt154.2.2 = true then (if (bt168.2.2 == bt120.2.2) = true then ((laws_floats.f k bt120.1 bt120.2.1 bt126.1 bt126.2.1).bind fun t174 => (if t174 = true then ((laws_floats.f k bt132.1 bt132.2.1 bt142.1 bt142.2.1).bind fun t175 => (if t175 = true then ((laws_floats.f k bt148.1 bt148.2.1 bt114.1 bt114.2.1).bind fun t176 => (if t176 = true then ((laws_floats.f k bt154.1 bt154.2.1 bt101.1 bt101.2).bind fun t177 => (if t177 = true then (if bt120.2.2 = true then ((impl_NegateFloat.f k bt120.1 bt120.2.1).bind fun bt178 => ((laws_floats.f k bt168.1 bt168.2.1 bt178.1 bt178.2).bind fun t182 => (some t182))) else (some true)) else (some false))) else (some false))) else (some false))) else (some false))) else (some false)) else (some false)) else (some false)) else (some false)) else (some false)) else (some false))))))))))))))))) = some r := h
 clear h; have HT := am hT; clear hT
 by_cases c2 : (l0.length : Int) > 1048576
 ·rw [if_pos c2] at H
  have c2b0 : decide (1048576 < (l0.length : Int)) = true := decide_eq_true c2
  have c2b1 : decide (1048576 < l0.length) = true := decide_eq_true (by omega)
  clear c2
  obtain rfl := Option.some.inj H
  go_enter Try.func9, Try.ntmps9
  go_wp2
  go_ret
  exact ⟨by first | rfl | (simp [errW_none, errW_some] <;> rfl) | (simp [*, errW_none, errW_some] <;> rfl), bB HB.out⟩
 ·rw [if_neg c2] at H
  have c2b0 : decide (1048576 < (l0.length : Int)) = false := decide_eq_false c2
  have c2b1 : decide (1048576 < l0.length) = false := decide_eq_false (by omega)
  clear c2
  replace H := Option.bind_eq_some_iff.mp H
  obtain ⟨⟨t101, t104⟩, A30, H⟩ := H
  replace H : ((laws_fresh.f k l0 3).bind fun t106 => ((spec_MakeFloating.f k t106).bind fun bt109 => ((impl_FloatOf.f k 0 0).bind fun bt114 => ((impl_AddFloats.f k t101 t104 bt109.1 bt109.2).bind fun bt120 => ((impl_AddFloats.f k bt109.1 bt109.2 t101 t104).bind fun bt126 => ((impl_SubFloats.f k t101 t104 bt109.1 bt109.2).bind fun bt132 => ((impl_NegateFloat.f k bt109.1 bt109.2).bind fun bt138 => ((impl_AddFloats.f k t101 t104 bt138.1 bt138.2).bind fun bt142 => ((impl_SubFloats.f k t101 t104 t101 t104).bind fun bt148 => ((impl_AddFloats.f k t101 t104 bt114.1 bt114.2.1).bind fun bt154 => ((impl_NegateFloat.f k t101 t104).bind fun bt160 => ((impl_NegateFloat.f k bt109.1 bt109.2).bind fun bt164 => ((impl_AddFloats.f k bt160.1 bt160.2 bt164.1 bt164.2).bind fun bt168 => (if bt114.2.2 = true then (if (bt120.2.2 == bt126.2.2) = true then (if (bt132.2.2 == bt142.2.2) = true then (if bt148.2.2 = true then (if bt154.2.2 = true then (if (bt168.2.2 == bt120.2.2) = true then ((laws_floats.f k bt120.1 bt120.2.1 bt126.1 bt126.2.1).bind fun t174 => (if t174 = true then ((laws_floats.f k bt132.1 bt132.2.1 bt142.1 bt142.2.1).bind fun t175 => (if t175 = true then ((laws_floats.f k bt148.1 bt148.2.1 bt114.1 bt114.2.1).bind fun t176 => (if t176 = true then ((laws_floats.f k bt154.1 bt154.2.1 t101 t104).bind fun t177 => (if t177 = true then (if bt120.2.2 = true then ((impl_NegateFloat.f k bt120.1 bt120.2.1).bind fun bt178 => ((laws_floats.f k bt168.1 bt168.2.1 bt178.1 bt178.2).bind fun t182 => (some t182))) else (some true)) else (some false))) else (some false))) else (some false))) else (some false))) else (some false)) else (some false)) else (some false)) else (some false)) else (some false)) else (some false))))))))))))))) = some r := H
  have A3 := am A30; clear A30
  replace H := Option.bind_eq_some_iff.mp H
  obtain ⟨t106, A40, H⟩ := H
  replace H : ((spec_MakeFloating.f k t106).bind fun bt109 => ((impl_FloatOf.f k 0 0).bind fun bt114 => ((impl_AddFloats.f k t101 t104 bt109.1 bt109.2).bind fun bt120 => ((impl_AddFloats.f k bt109.1 bt109.2 t101 t104).bind fun bt126 => ((impl_SubFloats.f k t101 t104 bt109.1 bt109.2).bind fun bt132 => ((impl_NegateFloat.f k bt109.1 bt109.2).bind fun bt138 => ((impl_AddFloats.f k t101 t104 bt138.1 bt138.2).bind fun bt142 => ((impl_SubFloats.f k t101 t104 t101 t104).bind fun bt148 => ((impl_AddFloats.f k t101 t104 bt114.1 bt114.2.1).bind fun bt154 => ((impl_NegateFloat.f k t101 t104).bind fun bt160 => ((impl_NegateFloat.f k bt109.1 bt109.2).bind fun bt164 => ((impl_AddFloats.f k bt160.1 bt160.2 bt164.1 bt164.2).bind fun bt168 => (if bt114.2.2 = true then (if (bt120.2.2 == bt126.2.2) = true then (if (bt132.2.2 == bt142.2.2) = true then (if bt148.2.2 = true then (if bt154.2.2 = true then (if (bt168.2.2 == bt120.2.2) = true then ((laws_floats.f k bt120.1 bt120.2.1 bt126.1 bt126.2.1).bind fun t174 => (if t174 = true then ((laws_floats.f k bt132.1 bt132.2.1 bt142.1 bt142.2.1).bind fun t175 => (if t175 = true then ((laws_floats.f k bt148.1 bt148.2.1 bt114.1 bt114.2.1).bind fun t176 => (if t176 = true then ((laws_floats.f k bt154.1 bt154.2.1 t101 t104).bind fun t177 => (if t177 = true then (if bt120.2.2 = true then ((impl_NegateFloat.f k bt120.1 bt120.2.1).bind fun bt178 => ((laws_floats.f k bt168.1 bt168.2.1 bt178.1 bt178.2).bind fun t182 => (some t182))) else (some true)) else (some false))) else (some false))) else (some false))) else (some false))) else (some false)) else (some false)) else (some false)) else (some false)) else (some false)) else (some false)))))))))))))) = some r := H
  have A4 := am A40; clear A40
  replace H := Option.bind_eq_some_iff.mp H
  obtain ⟨⟨t109, t112⟩, A50, H⟩ := H
  replace H : ((impl_FloatOf.f k 0 0).bind fun bt114 => ((impl_AddFloats.f k t101 t104 t109 t112).bind fun bt120 => ((impl_AddFloats.f k t109 t112 t101 t104).bind fun bt126 => ((impl_SubFloats.f k t101 t104 t109 t112).bind fun bt132 => ((impl_NegateFloat.f k t109 t112).bind fun bt138 => ((impl_AddFloats.f k t101 t104 bt138.1 bt138.2).bind fun bt142 => ((impl_SubFloats.f k t101 t104 t101 t104).bind fun bt148 => ((impl_AddFloats.f k t101 t104 bt114.1 bt114.2.1).bind fun bt154 => ((impl_NegateFloat.f k t101 t104).bind fun bt160 => ((impl_NegateFloat.f k t109 t112).bind fun bt164 => ((impl_AddFloats.f k bt160.1 bt160.2 bt164.1 bt164.2).bind fun bt168 => (if bt114.2.2 = true then (if (bt120.2.2 == bt126.2.2) = true then (if (bt132.2.2 == bt142.2.2) = true then (if bt148.2.2 = true then (if bt154.2.2 = true then (if (bt168.2.2 == bt120.2.2) = true then ((laws_floats.f k bt120.1 bt120.2.1 bt126.1 bt126.2.1).bind fun t174 => (if t174 = true then ((laws_floats.f k bt132.1 bt132.2.1 bt142.1 bt142.2.1).bind fun t175 => (if t175 = true then ((laws_floats.f k bt148.1 bt148.2.1 bt114.1 bt114.2.1).bind fun t176 => (if t176 = true then ((laws_floats.f k bt154.1 bt154.2.1 t101 t104).bind fun t177 => (if t177 = true then (if bt120.2.2 = true then ((impl_NegateFloat.f k bt120.1 bt120.2.1).bind fun bt178 => ((laws_floats.f k bt168.1 bt168.2.1 bt178.1 bt178.2).bind fun t182 => (some t182))) else (some true)) else (some false))) else (some false))) else (some false))) else (some false))) else (some false)) else (some false)) else (some false)) else (some false)) else (some false)) else (some false))))))))))))) = some r := H
  have A5 := am A50; clear A50
  replace H := Option.bind_eq_some_iff.mp H
  obtain ⟨⟨t114, t117, t118⟩, A60, H⟩ := H
  replace H : ((impl_AddFloats.f k t101 t104 t109 t112).bind fun bt120 => ((impl_AddFloats.f k t109 t112 t101 t104).bind fun bt126 => ((impl_SubFloats.f k t101 t104 t109 t112).bind fun bt132 => ((impl_NegateFloat.f k t109 t112).bind fun bt138 => ((impl_AddFloats.f k t101 t104 bt138.1 bt138.2).bind fun bt142 => ((impl_SubFloats.f k t101 t104 t101 t104).bind fun bt148 => ((impl_AddFloats.f k t101 t104 t114 t117).bind fun bt154 => ((impl_NegateFloat.f k t101 t104).bind fun bt160 => ((impl_NegateFloat.f k t109 t112).bind fun bt164 => ((impl_AddFloats.f k bt160.1 bt160.2 bt164.1 bt164.2).bind fun bt168 => (if t118 = true then (if (bt120.2.2 == bt126.2.2) = true then (if (bt132.2.2 == bt142.2.2) = true then (if bt148.2.2 = true then (if bt154.2.2 = true then (if (bt168.2.2 == bt120.2.2) = true then ((laws_floats.f k bt120.1 bt120.2.1 bt126.1 bt126.2.1).bind fun t174 => (if t174 = true then ((laws_floats.f k bt132.1 bt132.2.1 bt142.1 bt142.2.1).bind fun t175 => (if t175 = true then ((laws_floats.f k bt148.1 bt148.2.1 t114 t117).bind fun t176 => (if t176 = true then ((laws_floats.f k bt154.1 bt154.2.1 t101 t104).bind fun t177 => (if t177 = true then (if bt120.2.2 = true then ((impl_NegateFloat.f k bt120.1 bt120.2.1).bind fun bt178 => ((laws_floats.f k bt168.1 bt168.2.1 bt178.1 bt178.2).bind fun t182 => (some t182))) else (some true)) else (some false))) else (some false))) else (some false))) else (some false))) else (some false)) else (some false)) else (some false)) else (some false)) else (some false)) else (some false)))))))))))) = some r := H
  have A6 := am A60; clear A60
  replace H := Option.bind_eq_some_iff.mp H
  obtain ⟨⟨t120, t123, t124⟩, A70, H⟩ := H
  replace H : ((impl_AddFloats.f k t109 t112 t101 t104).bind fun bt126 => ((impl_SubFloats.f k t101 t104 t109 t112).bind fun bt132 => ((impl_NegateFloat.f k t109 t112).bind fun bt138 => ((impl_AddFloats.f k t101 t104 bt138.1 bt138.2).bind fun bt142 => ((impl_SubFloats.f k t101 t104 t101 t104).bind fun bt148 => ((impl_AddFloats.f k t101 t104 t114 t117).bind fun bt154 => ((impl_NegateFloat.f k t101 t104).bind fun bt160 => ((impl_NegateFloat.f k t109 t112).bind fun bt164 => ((impl_AddFloats.f k bt160.1 bt160.2 bt164.1 bt164.2).bind fun bt168 => (if t118 = true then (if (t124 == bt126.2.2) = true then (if (bt132.2.2 == bt142.2.2) = true then (if bt148.2.2 = true then (if bt154.2.2 = true then (if (bt168.2.2 == t124) = true then ((laws_floats.f k t120 t123 bt126.1 bt126.2.1).bind fun t174 => (if t174 = true then ((laws_floats.f k bt132.1 bt132.2.1 bt142.1 bt142.2.1).bind fun t175 => (if t175 = true then ((laws_floats.f k bt148.1 bt148.2.1 t114 t117).bind fun t176 => (if t176 = true then ((laws_floats.f k bt154.1 bt154.2.1 t101 t104).bind fun t177 => (if t177 = true then (if t124 = true then ((impl_NegateFloat.f k t120 t123).bind fun bt178 => ((laws_floats.f k bt168.1 bt168.2.1 bt178.1 bt178.2).bind fun t182 => (some t182))) else (some true)) else (some false))) else (some false))) else (some false))) else (some false))) else (some false)) else (some false)) else (some false)) else (some false)) else (some false)) else (some false))))))))))) = some r := H
  have A7 := am A70; clear A70
  replace H := Option.bind_eq_some_iff.mp H
  obtain ⟨⟨t126, t129, t130⟩, A80, H⟩ := H
  replace H : ((impl_SubFloats.f k t101 t104 t109 t112).bind fun bt132 => ((impl_NegateFloat.f k t109 t112).bind fun bt138 => ((impl_AddFloats.f k t101 t104 bt138.1 bt138.2).bind fun bt142 => ((impl_SubFloats.f k t101 t104 t101 t104).bind fun bt148 => ((impl_AddFloats.f k t101 t104 t114 t117).bind fun bt154 => ((impl_NegateFloat.f k t101 t104).bind fun bt160 => ((impl_NegateFloat.f k t109 t112).bind fun bt164 => ((impl_AddFloats.f k bt160.1 bt160.2 bt164.1 bt164.2).bind fun bt168 => (if t118 = true then (if (t124 == t130) = true then (if (bt132.2.2 == bt142.2.2) = true then (if bt148.2.2 = true then (if bt154.2.2 = true then (if (bt168.2.2 == t124) = true then ((laws_floats.f k t120 t123 t126 t129).bind fun t174 => (if t174 = true then ((laws_floats.f k bt132.1 bt132.2.1 bt142.1 bt142.2.1).bind fun t175 => (if t175 = true then ((laws_floats.f k bt148.1 bt148.2.1 t114 t117).bind fun t176 => (if t176 = true then ((laws_floats.f k bt154.1 bt154.2.1 t101 t104).bind fun t177 => (if t177 = true then (if t124 = true then ((impl_NegateFloat.f k t120 t123).bind fun bt178 => ((laws_floats.f k bt168.1 bt168.2.1 bt178.1 bt178.2).bind fun t182 => (some t182))) else (some true)) else (some false))) else (some false))) else (some false))) else (some false))) else (some false)) else (some false)) else (some false)) else (some false)) else (some false)) else (some false)))))))))) = some r := H
  have A8 := am A80; clear A80
  replace H := Option.bind_eq_some_iff.mp H
  obtain ⟨⟨t132, t135, t136⟩, A90, H⟩ := H
  replace H : ((impl_NegateFloat.f k t109 t112).bind fun bt138 => ((impl_AddFloats.f k t101 t104 bt138.1 bt138.2).bind fun bt142 => ((impl_SubFloats.f k t101 t104 t101 t104).bind fun bt148 => ((impl_AddFloats.f k t101 t104 t114 t117).bind fun bt154 => ((impl_NegateFloat.f k t101 t104).bind fun bt160 => ((impl_NegateFloat.f k t109 t112).bind fun bt164 => ((impl_AddFloats.f k bt160.1 bt160.2 bt164.1 bt164.2).bind fun bt168 => (if t118 = true then (if (t124 == t130) = true then (if (t136 == bt142.2.2) = true then (if bt148.2.2 = true then (if bt154.2.2 = true then (if (bt168.2.2 == t124) = true then ((laws_floats.f k t120 t123 t126 t129).bind fun t174 => (if t174 = true then ((laws_floats.f k t132 t135 bt142.1 bt142.2.1).bind fun t175 => (if t175 = true then ((laws_floats.f k bt148.1 bt148.2.1 t114 t117).bind fun t176 => (if t176 = true then ((laws_floats.f k bt154.1 bt154.2.1 t101 t104).bind fun t177 => (if t177 = true then (if t124 = true then ((impl_NegateFloat.f k t120 t123).bind fun bt178 => ((laws_floats.f k bt168.1 bt168.2.1 bt178.1 bt178.2).bind fun t182 => (some t182))) else (some true)) else (some false))) else (some false))) else (some false))) else (some false))) else (some false)) else (some false)) else (some false)) else (some false)) else (some false)) else (some false))))))))) = some r := H
  have A9 := am A90; clear A90
  replace H := Option.bind_eq_some_iff.mp H
  obtain ⟨⟨t138, t141⟩, A100, H⟩ := H
  replace H : ((impl_AddFloats.f k t101 t104 t138 t141).bind fun bt142 => ((impl_SubFloats.f k t101 t104 t101 t104).bind fun bt148 => ((impl_AddFloats.f k t101 t104 t114 t117).bind fun bt154 => ((impl_NegateFloat.f k t101 t104).bind fun bt160 => ((impl_NegateFloat.f k t109 t112).bind fun bt164 => ((impl_AddFloats.f k bt160.1 bt160.2 bt164.1 bt164.2).bind fun bt168 => (if t118 = true then (if (t124 == t130) = true then (if (t136 == bt142.2.2) = true then (if bt148.2.2 = true then (if bt154.2.2 = true then (if (bt168.2.2 == t124) = true then ((laws_floats.f k t120 t123 t126 t129).bind fun t174 => (if t174 = true then ((laws_floats.f k t132 t135 bt142.1 bt142.2.1).bind fun t175 => (if t175 = true then ((laws_floats.f k bt148.1 bt148.2.1 t114 t117).bind fun t176 => (if t176 = true then ((laws_floats.f k bt154.1 bt154.2.1 t101 t104).bind fun t177 => (if t177 = true then (if t124 = true then ((impl_NegateFloat.f k t120 t123).bind fun bt178 => ((laws_floats.f k bt168.1 bt168.2.1 bt178.1 bt178.2).bind fun t182 => (some t182))) else (some true)) else (some false))) else (some false))) else (some false))) else (some false))) else (some false)) else (some false)) else (some false)) else (some false)) else (some false)) else (some false)))))))) = some r := H
  have A10 := am A100; clear A100
  replace H := Option.bind_eq_some_iff.mp H
  obtain ⟨⟨t142, t145, t146⟩, A110, H⟩ := H
  replace H : ((impl_SubFloats.f k t101 t104 t101 t104).bind fun bt148 => ((impl_AddFloats.f k t101 t104 t114 t117).bind fun bt154 => ((impl_NegateFloat.f k t101 t104).bind fun bt160 => ((impl_NegateFloat.f k t109 t112).bind fun bt164 => ((impl_AddFloats.f k bt160.1 bt160.2 bt164.1 bt164.2).bind fun bt168 => (if t118 = true then (if (t124 == t130) = true then (if (t136 == t146) = true then (if bt148.2.2 = true then (if bt154.2.2 = true then (if (bt168.2.2 == t124) = true then ((laws_floats.f k t120 t123 t126 t129).bind fun t174 => (if t174 = true then ((laws_floats.f k t132 t135 t142 t145).bind fun t175 => (if t175 = true then ((laws_floats.f k bt148.1 bt148.2.1 t114 t117).bind fun t176 => (if t176 = true then ((laws_floats.f k bt154.1 bt154.2.1 t101 t104).bind fun t177 => (if t177 = true then (if t124 = true then ((impl_NegateFloat.f k t120 t123).bind fun bt178 => ((laws_floats.f k bt168.1 bt168.2.1 bt178.1 bt178.2).bind fun t182 => (some t182))) else (some true)) else (some false))) else (some false))) else (some false))) else (some false))) else (some false)) else (some false)) else (some false)) else (some false)) else (some false)) else (some false))))))) = some r := H
  have A11 := am A110; clear A110
  replace H := Option.bind_eq_some_iff.mp H
  obtain ⟨⟨t148, t151, t152⟩, A120, H⟩ := H
  replace H : ((impl_AddFloats.f k t101 t104 t114 t117).bind fun bt154 => ((impl_NegateFloat.f k t101 t104).bind fun bt160 => ((impl_NegateFloat.f k t109 t112).bind fun bt164 => ((impl_AddFloats.f k bt160.1 bt160.2 bt164.1 bt164.2).bind fun bt168 => (if t118 = true then (if (t124 == t130) = true then (if (t136 == t146) = true then (if t152 = true then (if bt154.2.2 = true then (if (bt168.2.2 == t124) = true then ((laws_floats.f k t120 t123 t126 t129).bind fun t174 => (if t174 = true then ((laws_floats.f k t132 t135 t142 t145).bind fun t175 => (if t175 = true then ((laws_floats.f k t148 t151 t114 t117).bind fun t176 => (if t176 = true then ((laws_floats.f k bt154.1 bt154.2.1 t101 t104).bind fun t177 => (if t177 = true then (if t124 = true then ((impl_NegateFloat.f k t120 t123).bind fun bt178 => ((laws_floats.f k bt168.1 bt168.2.1 bt178.1 bt178.2).bind fun t182 => (some t182))) else (some true)) else (some false))) else (some false))) else (some false))) else (some false))) else (some false)) else (some false)) else (some false)) else (some false)) else (some false)) else (some false)))))) = some r := H
  have A12 := am A120; clear A120
  replace H := Option.bind_eq_some_iff.mp H
  obtain ⟨⟨t154, t157, t158⟩, A130, H⟩ := H
  replace H : ((impl_NegateFloat.f k t101 t104).bind fun bt160 => ((impl_NegateFloat.f k t109 t112).bind fun bt164 => ((impl_AddFloats.f k bt160.1 bt160.2 bt164.1 bt164.2).bind fun bt168 => (if t118 = true then (if (t124 == t130) = true then (if (t136 == t146) = true then (if t152 = true then (if t158 = true then (if (bt168.2.2 == t124) = true then ((laws_floats.f k t120 t123 t126 t129).bind fun t174 => (if t174 = true then ((laws_floats.f k t132 t135 t142 t145).bind fun t175 => (if t175 = true then ((laws_floats.f k t148 t151 t114 t117).bind fun t176 => (if t176 = true then ((laws_floats.f k t154 t157 t101 t104).bind fun t177 => (if t177 = true then (if t124 = true then ((impl_NegateFloat.f k t120 t123).bind fun bt178 => ((laws_floats.f k bt168.1 bt168.2.1 bt178.1 bt178.2).bind fun t182 => (some t182))) else (some true)) else (some false))) else (some false))) else (some false))) else (some false))) else (some false)) else (some false)) else (some false)) else (some false)) else (some false)) else (some false))))) = some r := H
  have A13 := am A130; clear A130
  replace H := Option.bind_eq_some_iff.mp H
  obtain ⟨⟨t160, t163⟩, A140, H⟩ := H
  replace H : ((impl_NegateFloat.f k t109 t112).bind fun bt164 => ((impl_AddFloats.f k t160 t163 bt164.1 bt164.2).bind fun bt168 => (if t118 = true then (if (t124 == t130) = true then (if (t136 == t146) = true then (if t152 = true then (if t158 = true then (if (bt168.2.2 == t124) = true then ((laws_floats.f k t120 t123 t126 t129).bind fun t174 => (if t174 = true then ((laws_floats.f k t132 t135 t142 t145).bind fun t175 => (if t175 = true then ((laws_floats.f k t148 t151 t114 t117).bind fun t176 => (if t176 = true then ((laws_floats.f k t154 t157 t101 t104).bind fun t177 => (if t177 = true then (if t124 = true then ((impl_NegateFloat.f k t120 t123).bind fun bt178 => ((laws_floats.f k bt168.1 bt168.2.1 bt178.1 bt178.2).bind fun t182 => (some t182))) else (some true)) else (some false))) else (some false))) else (some false))) else (some false))) else (some false)) else (some false)) else (some false)) else (some false)) else (some false)) else (some false)))) = some r := H
  have A14 := am A140; clear A140
  replace H := Option.bind_eq_some_iff.mp H
  obtain ⟨⟨t164, t167⟩, A150, H⟩ := H
  replace H : ((impl_AddFloats.f k t160 t163 t164 t167).bind fun bt168 => (if t118 = true then (if (t124 == t130) = true then (if (t136 == t146) = true then (if t152 = true then (if t158 = true then (if (bt168.2.2 == t124) = true then ((laws_floats.f k t120 t123 t126 t129).bind fun t174 => (if t174 = true then ((laws_floats.f k t132 t135 t142 t145).bind fun t175 => (if t175 = true then ((laws_floats.f k t148 t151 t114 t117).bind fun t176 => (if t176 = true then ((laws_floats.f k t154 t157 t101 t104).bind fun t177 => (if t177 = true then (if t124 = true then ((impl_NegateFloat.f k t120 t123).bind fun bt178 => ((laws_floats.f k bt168.1 bt168.2.1 bt178.1 bt178.2).bind fun t182 => (some t182))) else (some true)) else (some false))) else (some false))) else (some false))) else (some false))) else (some false)) else (some false)) else (some false)) else (some false)) else (some false)) else (some false))) = some r := H
  have A15 := am A150; clear A150
  replace H := Option.bind_eq_some_iff.mp H
  obtain ⟨⟨t168, t171, t172⟩, A160, H⟩ := H
  replace H : (if t118 = true then (if (t124 == t130) = true then (if (t136 == t146) = true then (if t152 = true then (if t158 = true then (if (t172 == t124) = true then ((laws_floats.f k t120 t123 t126 t129).bind fun t174 => (if t174 = true then ((laws_floats.f k t132 t135 t142 t145).bind fun t175 => (if t175 = true then ((laws_floats.f k t148 t151 t114 t117).bind fun t176 => (if t176 = true then ((laws_floats.f k t154 t157 t101 t104).bind fun t177 => (if t177 = true then (if t124 = true then ((impl_NegateFloat.f k t120 t123).bind fun bt178 => ((laws_floats.f k t168 t171 bt178.1 bt178.2).bind fun t182 => (some t182))) else (some true)) else (some false))) else (some false))) else (some false))) else (some false))) else (some false)) else (some false)) else (some false)) else (some false)) else (some false)) else (some false)) = some r := H
  have A16 := am A160; clear A160
  by_cases c17 : t118 = true
  ·subst c17
   have H1 : (if (t124 == t130) = true then (if (t136 == t146) = true then (if t152 = true then (if t158 = true then (if (t172 == t124) = true then ((laws_floats.f k t120 t123 t126 t129).bind fun t174 => (if t174 = true then ((laws_floats.f k t132 t135 t142 t145).bind fun t175 => (if t175 = true then ((laws_floats.f k t148 t151 t114 t117).bind fun t176 => (if t176 = true then ((laws_floats.f k t154 t157 t101 t104).bind fun t177 => (if t177 = true then (if t124 = true then ((impl_NegateFloat.f k t120 t123).bind fun bt178 => ((laws_floats.f k t168 t171 bt178.1 bt178.2).bind fun t182 => (some t182))) else (some true)) else (some false))) else (some false))) else (some false))) else (some false))) else (some false)) else (some false)) else (some false)) else (some false)) else (some false)) = some r := by rw [if_pos rfl] at H; exact H
   clear H; have H := H1; clear H1
   by_cases c18 : (t124 == t130) = true
   ·rw [if_pos c18] at H
    have c18b0 : (t124 == t130) = true := c18
    (try (have c18b1 : decide (t124 = t130) = true := by simpa using c18))
    (try (have c18b2 : (t124 == t130) = true := by simpa using c18))
    clear c18
    by_cases c19 : (t136 == t146) = true
    ·rw [if_pos c19] at H
     have c19b0 : (t136 == t146) = true := c19
     (try (have c19b1 : decide (t136 = t146) = true := by simpa using c19))
     (try (have c19b2 : (t136 == t146) = true := by simpa using c19))
     clear c19
     by_cases c20 : t152 = true
     ·subst c20
      have H1 : (if t158 = true then (if (t172 == t124) = true then ((laws_floats.f k t120 t123 t126 t129).bind fun t174 => (if t174 = true then ((laws_floats.f k t132 t135 t142 t145).bind fun t175 => (if t175 = true then ((laws_floats.f k t148 t151 t114 t117).bind fun t176 => (if t176 = true then ((laws_floats.f k t154 t157 t101 t104).bind fun t177 => (if t177 = true then (if t124 = true then ((impl_NegateFloat.f k t120 t123).bind fun bt178 => ((laws_floats.f k t168 t171 bt178.1 bt178.2).bind fun t182 => (some t182))) else (some true)) else (some false))) else (some false))) else (some false))) else (some false))) else (some false)) else (some false)) = some r := by rw [if_pos rfl] at H; exact H
      clear H; have H := H1; clear H1
      by_cases c21 : t158 = true
      ·subst c21
       have H1 : (if (t172 == t124) = true then ((laws_floats.f k t120 t123 t126 t129).bind fun t174 => (if t174 = true then ((laws_floats.f k t132 t135 t142 t145).bind fun t175 => (if t175 = true then ((laws_floats.f k t148 t151 t114 t117).bind fun t176 => (if t176 = true then ((laws_floats.f k t154 t157 t101 t104).bind fun t177 => (if t177 = true then (if t124 = true then ((impl_NegateFloat.f k t120 t123).bind fun bt178 => ((laws_floats.f k t168 t171 bt178.1 bt178.2).bind fun t182 => (some t182))) else (some true)) else (some false))) else (some false))) else (some false))) else (some false))) else (some false)) = some r := by rw [if_pos rfl] at H; exact H
       clear H; have H := H1; clear H1
       by_cases c22 : (t172 == t124) = true
       ·rw [if_pos c22] at H
        have c22b0 : (t172 == t124) = true := c22
        (try (have c22b1 : decide (t172 = t124) = true := by simpa using c22))
        (try (have c22b2 : (t172 == t124) = true := by simpa using c22))
        clear c22
        replace H := Option.bind_eq_some_iff.mp H
        obtain ⟨t174, A230, H⟩ := H
        replace H : (if t174 = true then ((laws_floats.f k t132 t135 t142 t145).bind fun t175 => (if t175 = true then ((laws_floats.f k t148 t151 t114 t117).bind fun t176 => (if t176 = true then ((laws_floats.f k t154 t157 t101 t104).bind fun t177 => (if t177 = true then (if t124 = true then ((impl_NegateFloat.f k t120 t123).bind fun bt178 => ((laws_floats.f k t168 t171 bt178.1 bt178.2).bind fun t182 => (some t182))) else (some true)) else (some false))) else (some false))) else (some false))) else (some false)) = some r := H
        have A23 := am A230; clear A230
        by_cases c24 : t174 = true
        ·subst c24
         have H1 : ((laws_floats.f k t132 t135 t142 t145).bind fun t175 => (if t175 = true then ((laws_floats.f k t148 t151 t114 t117).bind fun t176 => (if t176 = true then ((laws_floats.f k t154 t157 t101 t104).bind fun t177 => (if t177 = true then (if t124 = true then ((impl_NegateFloat.f k t120 t123).bind fun bt178 => ((laws_floats.f k t168 t171 bt178.1 bt178.2).bind fun t182 => (some t182))) else (some true)) else (some false))) else (some false))) else (some false))) = some r := by rw [if_pos rfl] at H; exact H
         clear H; have H := H1; clear H1
         replace H := Option.bind_eq_some_iff.mp H
         obtain ⟨t175, A250, H⟩ := H
         replace H : (if t175 = true then ((laws_floats.f k t148 t151 t114 t117).bind fun t176 => (if t176 = true then ((laws_floats.f k t154 t157 t101 t104).bind fun t177 => (if t177 = true then (if t124 = true then ((impl_NegateFloat.f k t120 t123).bind fun bt178 => ((laws_floats.f k t168 t171 bt178.1 bt178.2).bind fun t182 => (some t182))) else (some true)) else (some false))) else (some false))) else (some false)) = some r := H
         have A25 := am A250; clear A250
         by_cases c26 : t175 = true
         ·subst c26
          have H1 : ((laws_floats.f k t148 t151 t114 t117).bind fun t176 => (if t176 = true then ((laws_floats.f k t154 t157 t101 t104).bind fun t177 => (if t177 = true then (if t124 = true then ((impl_NegateFloat.f k t120 t123).bind fun bt178 => ((laws_floats.f k t168 t171 bt178.1 bt178.2).bind fun t182 => (some t182))) else (some true)) else (some false))) else (some false))) = some r := by rw [if_pos rfl] at H; exact H
          clear H; have H := H1; clear H1
          replace H := Option.bind_eq_some_iff.mp H
          obtain ⟨t176, A270, H⟩ := H
          replace H : (if t176 = true then ((laws_floats.f k t154 t157 t101 t104).bind fun t177 => (if t177 = true then (if t124 = true then ((impl_NegateFloat.f k t120 t123).bind fun bt178 => ((laws_floats.f k t168 t171 bt178.1 bt178.2).bind fun t182 => (some t182))) else (some true)) else (some false))) else (some false)) = some r := H
          have A27 := am A270; clear A270
          by_cases c28 : t176 = true
          ·subst c28
           have H1 : ((laws_floats.f k t154 t157 t101 t104).bind fun t177 => (if t177 = true then (if t124 = true then ((impl_NegateFloat.f k t120 t123).bind fun bt178 => ((laws_floats.f k t168 t171 bt178.1 bt178.2).bind fun t182 => (some t182))) else (some true)) else (some false))) = some r := by rw [if_pos rfl] at H; exact H
           clear H; have H := H1; clear H1
           replace H := Option.bind_eq_some_iff.mp H
           obtain ⟨t177, A290, H⟩ := H
           replace H : (if t177 = true then (if t124 = true then ((impl_NegateFloat.f k t120 t123).bind fun bt178 => ((laws_floats.f k t168 t171 bt178.1 bt178.2).bind fun t182 => (some t182))) else (some true)) else (some false)) = some r := H
           have A29 := am A290; clear A290
           by_cases c30 : t177 = true
           ·subst c30
            have H1 : (if t124 = true then ((impl_NegateFloat.f k t120 t123).bind fun bt178 => ((laws_floats.f k t168 t171 bt178.1 bt178.2).bind fun t182 => (some t182))) else (some true)) = some r := by rw [if_pos rfl] at H; exact H
            clear H; have H := H1; clear H1
            by_cases c31 : t124 = true
            ·subst c31
             have H1 : ((impl_NegateFloat.f k t120 t123).bind fun bt178 => ((laws_floats.f k t168 t171 bt178.1 bt178.2).bind fun t182 => (some t182))) = some r := by rw [if_pos rfl] at H; exact H
             clear H; have H := H1; clear H1
             replace H := Option.bind_eq_some_iff.mp H
             obtain ⟨⟨t178, t181⟩, A320, H⟩ := H
             replace H : ((laws_floats.f k t168 t171 t178 t181).bind fun t182 => (some t182)) = some r := H
             have A32 := am A320; clear A320
             replace H := Option.bind_eq_some_iff.mp H
             obtain ⟨t182, A330, H⟩ := H
             replace H : (some t182) = some r := H
             have A33 := am A330; clear A330
             obtain rfl := Option.some.inj H
             exact laws_FnFloatSums.leaf k A0 c0 l0 w HR0 HC0 c2b0 c2b1 t101 t104 A3 t106 A4 t109 t112 A5 t114 t117 t120 t123 true t182 t126 t129 t130 A8 t132 t135 t136 A9 t138 t141 A10 t142 t145 t146 A11 t148 t151 t154 t157 t160 t163 A14 t164 t167 A15 t168 t171 t172 A16 A6 c19b0 c19b1 c19b2 A12 A13 A23 A25 A27 A29 A7 c18b0 c18b1 c18b2 c22b0 c22b1 c22b2 HT (by rw [if_pos rfl]; exact Option.bind_eq_some_iff.mpr ⟨(t178, t181), A32.out, Option.bind_eq_some_iff.mpr ⟨t182, A33.out, rfl⟩⟩)
            ·replace c31 := Bool.eq_false_iff.mpr c31
             subst c31
             have H1 : (some true) = some r := by rw [if_neg (show ¬ (false = true) by decide)] at H; exact H
             clear H; have H := H1; clear H1
             obtain rfl := Option.some.inj H
             exact laws_FnFloatSums.leaf k A0 c0 l0 w HR0 HC0 c2b0 c2b1 t101 t104 A3 t106 A4 t109 t112 A5 t114 t117 t120 t123 false true t126 t129 t130 A8 t132 t135 t136 A9 t138 t141 A10 t142 t145 t146 A11 t148 t151 t154 t157 t160 t163 A14 t164 t167 A15 t168 t171 t172 A16 A6 c19b0 c19b1 c19b2 A12 A13 A23 A25 A27 A29 A7 c18b0 c18b1 c18b2 c22b0 c22b1 c22b2 HT (by rw [if_neg (by decide)])
           ·replace c30 := Bool.eq_false_iff.mpr c30
            subst c30
            have H1 : (some false) = some r := by rw [if_neg (show ¬ (false = true) by decide)] at H; exact H
            clear H; have H := H1; clear H1
            exact absurd ((Option.some.inj H).trans HT.out) (by decide)
          ·replace c28 := Bool.eq_false_iff.mpr c28
           subst c28
           have H1 : (some false) = some r := by rw [if_neg (show ¬ (false = true) by decide)] at H; exact H
           clear H; have H := H1; clear H1
           exact absurd ((Option.some.inj H).trans HT.out) (by decide)
         ·replace c26 := Bool.eq_false_iff.mpr c26
          subst c26
          have H1 : (some false) = some r := by rw [if_neg (show ¬ (false = true) by decide)] at H; exact H
          clear H; have H := H1; clear H1
          exact absurd ((Option.some.inj H).trans HT.out) (by decide)
        ·replace c24 := Bool.eq_false_iff.mpr c24
         subst c24
         have H1 : (some false) = some r := by rw [if_neg (show ¬ (false = true) by decide)] at H; exact H
         clear H; have H := H1; clear H1
         exact absurd ((Option.some.inj H).trans HT.out) (by decide)
       ·rw [if_neg c22] at H
        have c22b0 : (t172 == t124) = false := by simpa using c22
        (try (have c22b1 : decide (t172 = t124) = false := by simpa using c22))
        (try (have c22b2 : (t172 == t124) = false := by simpa using c22))
        (try (have c22b3 : ¬ (t172 = t124) := by simpa using c22))
        clear c22
        exact absurd ((Option.some.inj H).trans HT.out) (by decide)
      ·replace c21 := Bool.eq_false_iff.mpr c21
       subst c21
       have H1 : (some false) = some r := by rw [if_neg (show ¬ (false = true) by decide)] at H; exact H
       clear H; have H := H1; clear H1
       exact absurd ((Option.some.inj H).trans HT.out) (by decide)
     ·replace c20 := Bool.eq_false_iff.mpr c20
      subst c20
      have H1 : (some false) = some r := by rw [if_neg (show ¬ (false = true) by decide)] at H; exact H
      clear H; have H := H1; clear H1
      exact absurd ((Option.some.inj H).trans HT.out) (by decide)
    ·rw [if_neg c19] at H
     have c19b0 : (t136 == t146) = false := by simpa using c19
     (try (have c19b1 : decide (t136 = t146) = false := by simpa using c19))
     (try (have c19b2 : (t136 == t146) = false := by simpa using c19))
     (try (have c19b3 : ¬ (t136 = t146) := by simpa using c19))
     clear c19
     exact absurd ((Option.some.inj H).trans HT.out) (by decide)
   ·rw [if_neg c18] at H
    have c18b0 : (t124 == t130) = false := by simpa using c18
    (try (have c18b1 : decide (t124 = t130) = false := by simpa using c18))
    (try (have c18b2 : (t124 == t130) = false := by simpa using c18))
    (try (have c18b3 : ¬ (t124 = t130) := by simpa using c18))
    clear c18
    exact absurd ((Option.some.inj H).trans HT.out) (by decide)
  ·replace c17 := Bool.eq_false_iff.mpr c17
   subst c17
   have H1 : (some false) = some r := by rw [if_neg (show ¬ (false = true) by decide)] at H; exact H
   clear H; have H := H1; clear H1
   exact absurd ((Option.some.inj H).trans HT.out) (by decide)

/-- THE ONE PURE STATEMENT of laws_FnFloatSums: yours. -/
def laws_FnFloatSums.Pure : Prop := ∀ (l0 : List Int), l0.length ≤ maxLen → l0.length * 1 ≤ 140737488351232 → (∀ x ∈ l0, (Lit.int .u8 x).wf = true) → ∃ k, laws_FnFloatSums.f k l0 = some true
theorem laws_FnFloatSums.walk (P : laws_FnFloatSums.Pure) (a0 : Option Addr) (len0 cap0 : Nat) (z0 : List Int) (w : World) (w0 : (a0 = none ∧ len0 = 0 ∧ cap0 = 0 ∧ z0 = []) ∨ ∃ x, a0 = some x ∧ len0 ≤ cap0 ∧ cap0 ≤ maxLen ∧ z0.length = cap0 ∧ (∀ i, i < z0.length → w.cell? (x.add i) = some (.int .u8 (z0.getD i 0))) ∧ ∀ n ∈ z0, (Lit.int .u8 n).wf = true) (y0 : len0 * 1 ≤ 140737488351232) :
  Calls Try.prog 9 #[.slice a0 len0 cap0] w fun e w' => e = .returned (.bool true) ∧ Below w.heap.size w w' := by
 obtain ⟨l0, rfl, hr0, hm0, hw0, hc0⟩ := ReadsInt.ofRowC w0
 obtain ⟨k, h⟩ := P l0 hm0 y0 hw0
 refine (laws_FnFloatSums.calls k _ _ l0 true w (Kd.C_of_reads (d := (0 : Int)) (h1 := fun _ => rfl) hr0) hc0 h rfl).mono ?_
 rintro e w' ⟨rfl, hd⟩
 exact ⟨rfl, hd⟩

end Go.Proofs.Ytiamngcapghmdaa.P
