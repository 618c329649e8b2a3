/- The floats that the one-word float of a floating number goes through: a part of them; no condition is set on any claim. -/
import Derived.Test.YtffhddibgfaopaaSin4
namespace Go.Proofs.Ytffhddibgfaopaa.P
theorem pos0_ : some_ 27 122 = true := by decide +kernel
theorem pos1_ : some_ 27 149 = true := by decide +kernel
theorem pos2_ : some_ 27 176 = true := by decide +kernel
theorem pos3_ : some_ 27 203 = true := by decide +kernel
theorem pos4_ : some_ 27 230 = true := by decide +kernel
end Go.Proofs.Ytffhddibgfaopaa.P
