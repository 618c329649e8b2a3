/- The one-word floats of floating numbers: a part of them, told by the kernel; no condition is set on any claim. -/
import Derived.Test.YtffhddibgfaopaaZSnSng0
namespace Go.Proofs.Ytffhddibgfaopaa.P
theorem part6_ : part 27 284 = true := by decide +kernel
theorem part7_ : part 27 311 = true := by decide +kernel
theorem part8_ : part 27 338 = true := by decide +kernel
theorem link_ : link = true := by decide +kernel
theorem zeroR_ : rk (floatOfInt .f64 0) = some 0 := by decide +kernel
theorem wholeA_ : whole 134 122 = true := by decide +kernel
theorem wholeB_ : whole 134 (-255) = true := by decide +kernel
end Go.Proofs.Ytffhddibgfaopaa.P
