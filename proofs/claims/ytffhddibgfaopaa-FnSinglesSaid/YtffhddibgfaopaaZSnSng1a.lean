/- The one-word floats of floating numbers: a part of them, told by the kernel; no condition is set on any claim. -/
import Derived.Test.YtffhddibgfaopaaZSnSng0
namespace Go.Proofs.Ytffhddibgfaopaa.P
theorem part0_ : part 27 122 = true := by decide +kernel
theorem part1_ : part 27 149 = true := by decide +kernel
theorem part2_ : part 27 176 = true := by decide +kernel
end Go.Proofs.Ytffhddibgfaopaa.P
