/- The floats that the one-word float of a floating number goes through: all of them are told; no condition is set on any claim. -/
import Derived.Test.YtffhddibgfaopaaSin
namespace Go.Proofs.Ytffhddibgfaopaa.P
open Go.RowKit
set_option linter.unusedVariables false
/-- From the float of 64 bits to the end: whether all is told. -/
def last_ (b : Nat) : Bool :=
  match floatToFloatBits .f64 b .f32 with
  | none => false
  | some r => match floatToFloatBits .f32 r .f64 with
    | none => false
    | some q => FloatKind.f64.format.order q q == some .eq && (!(FloatKind.f64.format.order q 0 == some .eq) || (floatBits .quo .f64 4607182418800017408 q).isSome)
def ups : Nat → Nat → Bool
  | 0, x => last_ x
  | n + 1, x => last_ x && (match FloatKind.f64.format.mul x c3 with | none => false | some y => ups n y)
def downs : Nat → Nat → Bool
  | 0, x => last_ x
  | n + 1, x => last_ x && (match FloatKind.f64.format.div x c3 with | none => false | some y => downs n y)
def one_ (v : Int) : Bool := ups 20 (floatOfInt .f64 v) && downs 20 (floatOfInt .f64 v)
def some_ : Nat → Int → Bool
  | 0, _ => true
  | n + 1, v => one_ v && some_ n (v + 1)
end Go.Proofs.Ytffhddibgfaopaa.P
