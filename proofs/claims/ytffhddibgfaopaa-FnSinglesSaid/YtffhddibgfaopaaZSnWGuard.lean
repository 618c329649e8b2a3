/- Words on rows and kinds, as a program of this kit lays them, less what is not used here; no condition is set on any claim. -/
import Derived.Test.YtffhddibgfaopaaZSnWWords
/-! ### 58. A guarded operation whose guard is known to want it: the same goal without the guard -/
namespace Go.Proofs.YtffhddibgfaopaaW.PrintWords
open Go.RowKit
section
variable {P : Program} {ops : Array Oper} {rest : List Oper} {o : Oper} {a : Act} {Q : Exit → Act → World → Prop} {W : World}
end
end Go.Proofs.YtffhddibgfaopaaW.PrintWords
