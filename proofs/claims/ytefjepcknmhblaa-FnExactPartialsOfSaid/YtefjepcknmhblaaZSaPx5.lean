/- What functions of the program come to, each with the proof that it does, laid by a program of this session out of the translation; no condition is set on any claim. -/
import Derived.Test.YtefjepcknmhblaaZSaPx0
import Derived.Test.YtefjepcknmhblaaZSaPx1
namespace Go.Proofs.Ytefjepcknmhblaa.P
open Go.RowKit Go.Proofs.YtefjepcknmhblaaW.PrintWords Go.Proofs.YtefjepcknmhblaaW.PrintLast Go.Proofs.YtefjepcknmhblaaW.PrintMore
attribute [local go_sem] max2_int min2_int max_two min_two max_three min_three max_four min_four   -- for this text's walks alone
set_option linter.unusedVariables false
set_option linter.unusedSimpArgs false

/-! ### laws_szIntS: function 20 -/

/-! ### laws_szIntSS: function 13 -/

/-! ### spec_l3Fit: function 22 -/

/-! ### spec_l1Two: function 41 -/

/-! ### spec_l1Parts: function 42 -/

/-! ### spec_FullAdd: function 33 -/

/-! ### spec_CarrySave: function 32 -/

end Go.Proofs.Ytefjepcknmhblaa.P
