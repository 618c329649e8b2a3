/- Words on rows and kinds, as a program of this kit lays them, less what is not used here; no condition is set on any claim. -/
-- PRINTED WORDS (module Derived/Print/Sized.lean): go-gate-2's, for the rows of laws over slices: an AI agent of Go's test side, Tue Nov 17 2026; no person has read it. Lean checks it.
import Derived.SizedLaws
import Derived.ChangeSlices
namespace Go.Proofs.YtffhddibgfaopaaDoorW.PrintWords
open Go.ChangeShapes Go.WideShapes
end Go.Proofs.YtffhddibgfaopaaDoorW.PrintWords
