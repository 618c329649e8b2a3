/- What functions of the program come to, each with the proof that it does, laid by a program of this session out of the translation; no condition is set on any claim. -/
import Derived.Lib.SliceRun
import Derived.Test.YtefjepcknmhblaaZSaPx0
import Derived.Test.YtefjepcknmhblaaZSaPx1
namespace Go.Proofs.Ytefjepcknmhblaa.P
open Go.RowKit Go.Proofs.YtefjepcknmhblaaW.PrintWords Go.Proofs.YtefjepcknmhblaaW.PrintLast Go.Proofs.YtefjepcknmhblaaW.PrintMore
attribute [local go_sem] max2_int min2_int max_two min_two max_three min_three max_four min_four   -- for this text's walks alone
set_option linter.unusedVariables false
set_option linter.unusedSimpArgs false

/-! ### impl_sameLength: function 26 -/

/-! ### impl_carried: function 44 -/

/-! ### impl_FullAdd: function 36 -/

/-! ### impl_CarrySave: function 27 -/

/-! ### slices_Clone_int_int: function 28 -/

end Go.Proofs.Ytefjepcknmhblaa.P
