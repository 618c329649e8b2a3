/- What functions of the program come to, each with the proof that it does, laid by a program of this session out of the translation; no condition is set on any claim. -/
import Derived.Test.YtefjepcknmhblaaZSaPx0
import Derived.Test.YtefjepcknmhblaaZSaPx1
import Derived.Test.YtefjepcknmhblaaZSaPx5
import Derived.Test.YtefjepcknmhblaaZSaPx6
namespace Go.Proofs.Ytefjepcknmhblaa.P
open Go.RowKit Go.Proofs.YtefjepcknmhblaaW.PrintWords Go.Proofs.YtefjepcknmhblaaW.PrintLast Go.Proofs.YtefjepcknmhblaaW.PrintMore
attribute [local go_sem] max2_int min2_int max_two min_two max_three min_three max_four min_four   -- for this text's walks alone
set_option linter.unusedVariables false
set_option linter.unusedSimpArgs false

/-! ### spec_TreeSum: function 14 -/

/-! ### laws_toIntSS: function 15 -/

-- NOT PRINTED: function 43 (slices_IndexFunc_int_int)

-- NOT PRINTED: function 34 (slices_ContainsFunc_int_int)

end Go.Proofs.Ytefjepcknmhblaa.P
