/- Words on rows and kinds, as a program of this kit lays them, less what is not used here; no condition is set on any claim. -/
import Derived.Test.YtefjepcknmhblaaZSbWInv
import Derived.Test.YtefjepcknmhblaaZSbWFootNe
namespace Go.Proofs.YtefjepcknmhblaaW.PrintWords
open Go.RowKit
end Go.Proofs.YtefjepcknmhblaaW.PrintWords
namespace Go.Proofs.YtefjepcknmhblaaW.PrintLast
section
variable {ops : Array Oper} {a : Act} {o og : Oper} {g : Nat} {t : Tmp} {u : Bool}
end
end Go.Proofs.YtefjepcknmhblaaW.PrintLast
