/- Words on rows and kinds, as a program of this kit lays them, less what is not used here; no condition is set on any claim. -/
import Derived.Test.YtefjepcknmhblaaZSaWLast
import Derived.Test.YtefjepcknmhblaaZSaWWords
/-! ### 50. A region's order in a table, made once a region: each step asks the table (numbers alone), not the operations -/
namespace Go.Proofs.YtefjepcknmhblaaW.PrintLast
open Go.Proofs.YtefjepcknmhblaaW.PrintWords (Aside0)
section
variable {md : Region.Mode} {ops : Array Oper} {T : Bool × List (List Nat × List Nat)} {l l' li lj lk : Array Bool} {ds : List Nat} {i j k : Nat}
end
end Go.Proofs.YtefjepcknmhblaaW.PrintLast
