/- The one-word floats of floating numbers: a part of them, told by the kernel; no condition is set on any claim. -/
import Derived.Test.YtffhddibgfaopaaZSnSng0
namespace Go.Proofs.Ytffhddibgfaopaa.P
theorem part3_ : part 27 203 = true := by decide +kernel
theorem part4_ : part 27 230 = true := by decide +kernel
theorem part5_ : part 27 257 = true := by decide +kernel
end Go.Proofs.Ytffhddibgfaopaa.P
