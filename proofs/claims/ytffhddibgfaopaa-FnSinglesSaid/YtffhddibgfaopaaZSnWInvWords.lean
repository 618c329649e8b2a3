/- Words on rows and kinds, as a program of this kit lays them, less what is not used here; no condition is set on any claim. -/
import Derived.Test.YtffhddibgfaopaaZSnWInv
import Derived.Test.YtffhddibgfaopaaZSnWFootNe
namespace Go.Proofs.YtffhddibgfaopaaW.PrintWords
open Go.RowKit
end Go.Proofs.YtffhddibgfaopaaW.PrintWords
namespace Go.Proofs.YtffhddibgfaopaaW.PrintLast
section
variable {ops : Array Oper} {a : Act} {o og : Oper} {g : Nat} {t : Tmp} {u : Bool}
end
end Go.Proofs.YtffhddibgfaopaaW.PrintLast
