/- The floats that the one-word float of a floating number goes through: a part of them; no condition is set on any claim. -/
import Derived.Test.YtffhddibgfaopaaSin4
namespace Go.Proofs.Ytffhddibgfaopaa.P
theorem neg0_ : some_ 27 (-364) = true := by decide +kernel
theorem neg1_ : some_ 27 (-337) = true := by decide +kernel
theorem neg2_ : some_ 27 (-310) = true := by decide +kernel
theorem neg3_ : some_ 27 (-283) = true := by decide +kernel
theorem neg4_ : some_ 27 (-256) = true := by decide +kernel
end Go.Proofs.Ytffhddibgfaopaa.P
