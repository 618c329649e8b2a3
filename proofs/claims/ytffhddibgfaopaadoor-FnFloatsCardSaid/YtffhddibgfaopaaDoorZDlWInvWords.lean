/- Words on rows and kinds, as a program of this kit lays them, less what is not used here; no condition is set on any claim. -/
import Derived.Test.YtffhddibgfaopaaDoorZDlWInv
import Derived.Test.YtffhddibgfaopaaDoorZDlWFootNe
namespace Go.Proofs.YtffhddibgfaopaaDoorW.PrintWords
open Go.RowKit
end Go.Proofs.YtffhddibgfaopaaDoorW.PrintWords
namespace Go.Proofs.YtffhddibgfaopaaDoorW.PrintLast
section
variable {ops : Array Oper} {a : Act} {o og : Oper} {g : Nat} {t : Tmp} {u : Bool}
end
end Go.Proofs.YtffhddibgfaopaaDoorW.PrintLast
