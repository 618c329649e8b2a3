/- The floats that the one-word float of a floating number goes through: a part of them; no condition is set on any claim. -/
import Derived.Test.YtffhddibgfaopaaSin4
namespace Go.Proofs.Ytffhddibgfaopaa.P
theorem neg5_ : some_ 27 (-229) = true := by decide +kernel
theorem neg6_ : some_ 27 (-202) = true := by decide +kernel
theorem neg7_ : some_ 27 (-175) = true := by decide +kernel
theorem neg8_ : some_ 27 (-148) = true := by decide +kernel
theorem zero_ : some_ 1 0 = true := by decide +kernel
end Go.Proofs.Ytffhddibgfaopaa.P
