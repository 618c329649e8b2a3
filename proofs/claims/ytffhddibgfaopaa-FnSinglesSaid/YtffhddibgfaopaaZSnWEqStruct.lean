/- Words on rows and kinds, as a program of this kit lays them, less what is not used here; no condition is set on any claim. -/
import Derived.Test.YtffhddibgfaopaaZSnWWords
import Derived.Laws.StructEq
/-! ### 53. '==' of structs as_ one Bool -/
namespace Go.Proofs.YtffhddibgfaopaaW.PrintWords
open Go.RowKit
section
variable {P : Program} {d : Nat} {xs ys : Array Value} {f : Field} {fs : List Field} {a b : Value} {r s : Bool} {w : World}
end
end Go.Proofs.YtffhddibgfaopaaW.PrintWords
