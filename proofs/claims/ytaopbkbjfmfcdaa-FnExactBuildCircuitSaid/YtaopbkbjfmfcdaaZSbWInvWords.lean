/- Words on rows and kinds, as a program of this kit lays them, less what is not used here; no condition is set on any claim. -/
import Derived.Test.YtaopbkbjfmfcdaaZSbWInv
import Derived.Test.YtaopbkbjfmfcdaaZSbWFootNe
namespace Go.Proofs.YtaopbkbjfmfcdaaW.PrintWords
open Go.RowKit
end Go.Proofs.YtaopbkbjfmfcdaaW.PrintWords
namespace Go.Proofs.YtaopbkbjfmfcdaaW.PrintLast
section
variable {ops : Array Oper} {a : Act} {o og : Oper} {g : Nat} {t : Tmp} {u : Bool}
end
end Go.Proofs.YtaopbkbjfmfcdaaW.PrintLast
