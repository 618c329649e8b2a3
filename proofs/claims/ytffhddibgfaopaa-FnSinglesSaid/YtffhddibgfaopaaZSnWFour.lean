/- Words on rows and kinds, as a program of this kit lays them, less what is not used here; no condition is set on any claim. -/
import Derived.Test.YtffhddibgfaopaaZSnWTab
/-! ### 56. Four, five, six operations that may come up next, in any order -/
namespace Go.Proofs.YtffhddibgfaopaaW.PrintLast
section
variable {P : Program} {ops : Array Oper} {Q : Exit → Act → World → Prop} {md : Region.Mode} {S : World → Prop} {ds : List Nat} {T : Bool × List (List Nat × List Nat)}
end
end Go.Proofs.YtffhddibgfaopaaW.PrintLast
