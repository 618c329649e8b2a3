/- Two floats that are one, by hand; no condition is set on any claim. -/
import Derived.Test.YtffhddibgfaopaaSin
namespace Go.Proofs.Ytffhddibgfaopaa.P
open Go.RowKit Go.Proofs.YtffhddibgfaopaaW.PrintWords Go.Proofs.YtffhddibgfaopaaW.PrintLast Go.Proofs.YtffhddibgfaopaaW.PrintMore
set_option linter.unusedVariables false
set_option linter.unusedSimpArgs false
set_option maxHeartbeats 1600000 in
set_option maxRecDepth 100000 in
theorem sameF (q s : Nat) (w : World) (ho : FloatKind.f64.format.order q q = some .eq) (hd : (FloatKind.f64.format.order q 0 == some .eq) = true → floatBits .quo .f64 4607182418800017408 q = some s) :
    Calls Try.prog 15 #[.float .f64 q, .float .f64 q] w fun e w' => e = .returned (.bool true) ∧ Drawn0 w w' := by
  have n1 : (FloatKind.f64.format.order q q != some .eq) = false := by rw [ho]; rfl
  have n2 : (FloatKind.f64.format.order q q == some .eq) = true := by rw [ho]; rfl
  cases hz : (FloatKind.f64.format.order q 0 == some .eq) with
  | true =>
    have hf : ∀ w', (binOp .quo 36 (.float .f64 4607182418800017408) (.float .f64 q)).run Try.prog w' = .ok (.float .f64 s) w' := fun w' => run_float_arith w' .quo 36 .f64 _ q s (hd hz)
    clear hd ho
    go_enter Try.func15, Try.ntmps15
    go_wp2
    repeat (go_quiet (fail); try go_wp2)
    go_ret
    exact ⟨by simp, by repeat (first | exact Drawn0.refl _ | apply Drawn0.step)⟩
  | false =>
    clear hd ho
    go_enter Try.func15, Try.ntmps15
    go_wp2
    repeat (go_quiet (fail); try go_wp2)
    go_ret
    exact ⟨by simp, by repeat (first | exact Drawn0.refl _ | apply Drawn0.step)⟩
end Go.Proofs.Ytffhddibgfaopaa.P
