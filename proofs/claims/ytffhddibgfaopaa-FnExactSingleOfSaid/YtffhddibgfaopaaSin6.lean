/- The floats that the one-word float of a floating number goes through: a part of them; no condition is set on any claim. -/
import Derived.Test.YtffhddibgfaopaaSin4
namespace Go.Proofs.Ytffhddibgfaopaa.P
theorem pos5_ : some_ 27 257 = true := by decide +kernel
theorem pos6_ : some_ 27 284 = true := by decide +kernel
theorem pos7_ : some_ 27 311 = true := by decide +kernel
theorem pos8_ : some_ 27 338 = true := by decide +kernel
end Go.Proofs.Ytffhddibgfaopaa.P
