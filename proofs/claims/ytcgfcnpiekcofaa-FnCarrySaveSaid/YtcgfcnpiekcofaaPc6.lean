/- What functions of the program come to, each with the proof that it does, laid by a program of this session out of the translation; no condition is set on any claim. -/
import Derived.Test.YtcgfcnpiekcofaaPc0
import Derived.Test.YtcgfcnpiekcofaaPc1
import Derived.Test.YtcgfcnpiekcofaaPc3
import Derived.Test.YtcgfcnpiekcofaaPc4
import Derived.Test.YtcgfcnpiekcofaaPc5
namespace Go.Proofs.Ytcgfcnpiekcofaa.P
open Go.RowKit Go.Proofs.YtcgfcnpiekcofaaW.PrintWords Go.Proofs.YtcgfcnpiekcofaaW.PrintLast Go.Proofs.YtcgfcnpiekcofaaW.PrintMore
attribute [local go_sem] max2_int min2_int max_two min_two max_three min_three max_four min_four   -- for this text's walks alone
set_option linter.unusedVariables false
set_option linter.unusedSimpArgs false


theorem qa9 {α : Type} (l : List α) (i : Nat) (a : α) : l.toArray.setIfInBounds i a = (l.set i a).toArray := List.setIfInBounds_toArray ..
theorem qb9 {α : Type} (x a : α) (l : List α) : (x :: l).set 0 a = a :: l := rfl
theorem qc9 {α : Type} (x a : α) (l : List α) (n : Nat) : (x :: l).set (n + 1) a = x :: l.set n a := rfl
abbrev q9_0 : Array Bool := #[false, false, false, false, false, false, false, false, false, false, false, false, false, false, false, false, false]
abbrev q9_1 : Array Bool := #[true, false, false, false, false, false, false, false, false, false, false, false, false, false, false, false, false]
abbrev q9_2 : Array Bool := #[true, true, false, false, false, false, false, false, false, false, false, false, false, false, false, false, false]
abbrev q9_3 : Array Bool := #[true, true, false, true, false, false, false, false, false, false, false, false, false, false, false, false, false]
abbrev q9_4 : Array Bool := #[true, true, false, true, true, false, false, false, false, false, false, false, false, false, false, false, false]
abbrev q9_5 : Array Bool := #[true, true, false, true, true, false, true, false, false, false, false, false, false, false, false, false, false]
abbrev q9_6 : Array Bool := #[true, true, false, true, true, false, true, true, false, false, false, false, false, false, false, false, false]
abbrev q9_7 : Array Bool := #[true, true, true, true, true, false, true, true, false, false, false, false, false, false, false, false, false]
abbrev q9_8 : Array Bool := #[true, true, true, true, true, true, true, true, false, false, false, false, false, false, false, false, false]
abbrev q9_9 : Array Bool := #[true, true, true, true, true, true, true, true, true, false, false, false, false, false, false, false, false]
abbrev q9_10 : Array Bool := #[true, true, true, true, true, true, true, true, true, true, false, false, false, false, false, false, false]
abbrev q9_11 : Array Bool := #[true, true, true, true, true, true, true, true, true, true, true, false, false, false, false, false, false]
abbrev q9_12 : Array Bool := #[true, true, true, true, true, true, true, true, true, true, true, true, false, false, false, false, false]
abbrev q9_13 : Array Bool := #[true, true, true, true, true, true, true, true, true, true, true, true, true, false, false, false, false]
abbrev q9_14 : Array Bool := #[true, true, true, true, true, true, true, true, true, true, true, true, true, true, false, false, false]
abbrev q9_15 : Array Bool := #[true, true, true, true, true, true, true, true, true, true, true, true, true, true, true, false, false]
abbrev q9_16 : Array Bool := #[true, true, true, true, true, true, true, true, true, true, true, true, true, true, true, true, false]
abbrev q9_17 : Array Bool := #[true, true, true, true, true, true, true, true, true, true, true, true, true, true, true, true, true]
abbrev q9_18 : Array Bool := #[false, false, false, false, false, false, false, false, false, false, false, false, false, false, false, false, false, false, false, false, false, false, false, false, false, false, false, false, false, false, false, false, false, false, false, false, false, false, false, false, false, false, false, false, false]
abbrev q9_19 : Array Bool := #[true, false, false, false, false, false, false, false, false, false, false, false, false, false, false, false, false, false, false, false, false, false, false, false, false, false, false, false, false, false, false, false, false, false, false, false, false, false, false, false, false, false, false, false, false]
abbrev q9_20 : Array Bool := #[true, true, false, false, false, false, false, false, false, false, false, false, false, false, false, false, false, false, false, false, false, false, false, false, false, false, false, false, false, false, false, false, false, false, false, false, false, false, false, false, false, false, false, false, false]
abbrev q9_21 : Array Bool := #[true, true, true, false, false, false, false, false, false, false, false, false, false, false, false, false, false, false, false, false, false, false, false, false, false, false, false, false, false, false, false, false, false, false, false, false, false, false, false, false, false, false, false, false, false]
abbrev q9_22 : Array Bool := #[true, true, true, true, false, false, false, false, false, false, false, false, false, false, false, false, false, false, false, false, false, false, false, false, false, false, false, false, false, false, false, false, false, false, false, false, false, false, false, false, false, false, false, false, false]
abbrev q9_23 : Array Bool := #[true, true, true, true, true, false, false, false, false, false, false, false, false, false, false, false, false, false, false, false, false, false, false, false, false, false, false, false, false, false, false, false, false, false, false, false, false, false, false, false, false, false, false, false, false]
abbrev q9_24 : Array Bool := #[true, true, true, true, true, true, false, false, false, false, false, false, false, false, false, false, false, false, false, false, false, false, false, false, false, false, false, false, false, false, false, false, false, false, false, false, false, false, false, false, false, false, false, false, false]
abbrev q9_25 : Array Bool := #[true, true, true, true, true, true, true, false, false, false, false, false, false, false, false, false, false, false, false, false, false, false, false, false, false, false, false, false, false, false, false, false, false, false, false, false, false, false, false, false, false, false, false, false, false]
abbrev q9_26 : Array Bool := #[true, true, true, true, true, true, true, true, false, false, false, false, false, false, false, false, false, false, false, false, false, false, false, false, false, false, false, false, false, false, false, false, false, false, false, false, false, false, false, false, false, false, false, false, false]
abbrev q9_27 : Array Bool := #[true, true, true, true, true, true, true, true, true, false, false, false, false, false, false, false, false, false, false, false, false, false, false, false, false, false, false, false, false, false, false, false, false, false, false, false, false, false, false, false, false, false, false, false, false]
abbrev q9_28 : Array Bool := #[true, true, true, true, true, true, true, true, true, true, false, false, false, false, false, false, false, false, false, false, false, false, false, false, false, false, false, false, false, false, false, false, false, false, false, false, false, false, false, false, false, false, false, false, false]
abbrev q9_29 : Array Bool := #[true, true, true, true, true, true, true, true, true, true, true, false, false, false, false, false, false, false, false, false, false, false, false, false, false, false, false, false, false, false, false, false, false, false, false, false, false, false, false, false, false, false, false, false, false]
abbrev q9_30 : Array Bool := #[true, true, true, true, true, true, true, true, true, true, true, true, false, false, false, false, false, false, false, false, false, false, false, false, false, false, false, false, false, false, false, false, false, false, false, false, false, false, false, false, false, false, false, false, false]
abbrev q9_31 : Array Bool := #[true, true, true, true, true, true, true, true, true, true, true, true, true, false, false, false, false, false, false, false, false, false, false, false, false, false, false, false, false, false, false, false, false, false, false, false, false, false, false, false, false, false, false, false, false]
abbrev q9_32 : Array Bool := #[true, true, true, true, true, true, true, true, true, true, true, true, true, true, false, false, false, false, false, false, false, false, false, false, false, false, false, false, false, false, false, false, false, false, false, false, false, false, false, false, false, false, false, false, false]
abbrev q9_33 : Array Bool := #[true, true, true, true, true, true, true, true, true, true, true, true, true, true, true, false, false, false, false, false, false, false, false, false, false, false, false, false, false, false, false, false, false, false, false, false, false, false, false, false, false, false, false, false, false]
abbrev q9_34 : Array Bool := #[true, true, true, true, true, true, true, true, true, true, true, true, true, true, true, true, false, false, false, false, false, false, false, false, false, false, false, false, false, false, false, false, false, false, false, false, false, false, false, false, false, false, false, false, false]
abbrev q9_35 : Array Bool := #[true, true, true, true, true, true, true, true, true, true, true, true, true, true, true, true, true, false, false, false, false, false, false, false, false, false, false, false, false, false, false, false, false, false, false, false, false, false, false, false, false, false, false, false, false]
abbrev q9_36 : Array Bool := #[true, true, true, true, true, true, true, true, true, true, true, true, true, true, true, true, true, true, false, false, false, false, false, false, false, false, false, false, false, false, false, false, false, false, false, false, false, false, false, false, false, false, false, false, false]
abbrev q9_37 : Array Bool := #[true, true, true, true, true, true, true, true, true, true, true, true, true, true, true, true, true, true, true, false, false, false, false, false, false, false, false, false, false, false, false, false, false, false, false, false, false, false, false, false, false, false, false, false, false]
abbrev q9_38 : Array Bool := #[true, true, true, true, true, true, true, true, true, true, true, true, true, true, true, true, true, true, true, true, false, false, false, false, false, false, false, false, false, false, false, false, false, false, false, false, false, false, false, false, false, false, false, false, false]
abbrev q9_39 : Array Bool := #[true, true, true, true, true, true, true, true, true, true, true, true, true, true, true, true, true, true, true, true, true, false, false, false, false, false, false, false, false, false, false, false, false, false, false, false, false, false, false, false, false, false, false, false, false]
abbrev q9_40 : Array Bool := #[true, true, true, true, true, true, true, true, true, true, true, true, true, true, true, true, true, true, true, true, true, false, true, false, false, false, false, false, false, false, false, false, false, false, false, false, false, false, false, false, false, false, false, false, false]
abbrev q9_41 : Array Bool := #[true, true, true, true, true, true, true, true, true, true, true, true, true, true, true, true, true, true, true, true, true, false, true, false, false, true, false, false, false, false, false, false, false, false, false, false, false, false, false, false, false, false, false, false, false]
abbrev q9_42 : Array Bool := #[true, true, true, true, true, true, true, true, true, true, true, true, true, true, true, true, true, true, true, true, true, false, true, false, false, true, true, false, false, false, false, false, false, false, false, false, false, false, false, false, false, false, false, false, false]
abbrev q9_43 : Array Bool := #[true, true, true, true, true, true, true, true, true, true, true, true, true, true, true, true, true, true, true, true, true, false, true, false, false, true, true, false, false, false, true, false, false, false, false, false, false, false, false, false, false, false, false, false, false]
abbrev q9_44 : Array Bool := #[true, true, true, true, true, true, true, true, true, true, true, true, true, true, true, true, true, true, true, true, true, false, true, false, false, true, true, false, false, false, true, true, false, false, false, false, false, false, false, false, false, false, false, false, false]
abbrev q9_45 : Array Bool := #[true, true, true, true, true, true, true, true, true, true, true, true, true, true, true, true, true, true, true, true, true, false, true, false, false, true, true, false, false, false, true, true, false, false, false, true, false, false, false, false, false, false, false, false, false]
abbrev q9_46 : Array Bool := #[true, true, true, true, true, true, true, true, true, true, true, true, true, true, true, true, true, true, true, true, true, false, true, false, false, true, true, false, false, false, true, true, false, false, false, true, true, false, false, false, false, false, false, false, false]
abbrev q9_47 : Array Bool := #[true, true, true, true, true, true, true, true, true, true, true, true, true, true, true, true, true, true, true, true, true, false, true, false, false, true, true, false, false, false, true, true, false, false, false, true, true, false, false, false, true, false, false, false, false]
abbrev q9_48 : Array Bool := #[true, true, true, true, true, true, true, true, true, true, true, true, true, true, true, true, true, true, true, true, true, false, true, false, false, true, true, true, false, false, true, true, false, false, false, true, true, false, false, false, true, false, false, false, false]
abbrev q9_49 : Array Bool := #[true, true, true, true, true, true, true, true, true, true, true, true, true, true, true, true, true, true, true, true, true, false, true, false, false, true, true, true, false, false, true, true, true, false, false, true, true, false, false, false, true, false, false, false, false]
abbrev q9_50 : Array Bool := #[true, true, true, true, true, true, true, true, true, true, true, true, true, true, true, true, true, true, true, true, true, false, true, false, false, true, true, true, false, false, true, true, true, false, false, true, true, true, false, false, true, false, false, false, false]
abbrev q9_51 : Array Bool := #[true, true, true, true, true, true, true, true, true, true, true, true, true, true, true, true, true, true, true, true, true, true, true, false, false, true, true, true, false, false, true, true, true, false, false, true, true, true, false, false, true, false, false, false, false]
abbrev q9_52 : Array Bool := #[true, true, true, true, true, true, true, true, true, true, true, true, true, true, true, true, true, true, true, true, true, true, true, true, false, true, true, true, false, false, true, true, true, false, false, true, true, true, false, false, true, false, false, false, false]
abbrev q9_53 : Array Bool := #[true, true, true, true, true, true, true, true, true, true, true, true, true, true, true, true, true, true, true, true, true, true, true, true, true, true, true, true, false, false, true, true, true, false, false, true, true, true, false, false, true, false, false, false, false]
abbrev q9_54 : Array Bool := #[true, true, true, true, true, true, true, true, true, true, true, true, true, true, true, true, true, true, true, true, true, true, true, true, true, true, true, true, true, false, true, true, true, false, false, true, true, true, false, false, true, false, false, false, false]
abbrev q9_55 : Array Bool := #[true, true, true, true, true, true, true, true, true, true, true, true, true, true, true, true, true, true, true, true, true, true, true, true, true, true, true, true, true, true, true, true, true, false, false, true, true, true, false, false, true, false, false, false, false]
abbrev q9_56 : Array Bool := #[true, true, true, true, true, true, true, true, true, true, true, true, true, true, true, true, true, true, true, true, true, true, true, true, true, true, true, true, true, true, true, true, true, true, false, true, true, true, false, false, true, false, false, false, false]
abbrev q9_57 : Array Bool := #[true, true, true, true, true, true, true, true, true, true, true, true, true, true, true, true, true, true, true, true, true, true, true, true, true, true, true, true, true, true, true, true, true, true, true, true, true, true, false, false, true, false, false, false, false]
abbrev q9_58 : Array Bool := #[true, true, true, true, true, true, true, true, true, true, true, true, true, true, true, true, true, true, true, true, true, true, true, true, true, true, true, true, true, true, true, true, true, true, true, true, true, true, true, false, true, false, false, false, false]
abbrev q9_59 : Array Bool := #[true, true, true, true, true, true, true, true, true, true, true, true, true, true, true, true, true, true, true, true, true, true, true, true, true, true, true, true, true, true, true, true, true, true, true, true, true, true, true, true, true, false, false, false, false]
abbrev q9_60 : Array Bool := #[true, true, true, true, true, true, true, true, true, true, true, true, true, true, true, true, true, true, true, true, true, true, true, true, true, true, true, true, true, true, true, true, true, true, true, true, true, true, true, true, true, true, false, false, false]
abbrev q9_61 : Array Bool := #[true, true, true, true, true, true, true, true, true, true, true, true, true, true, true, true, true, true, true, true, true, true, true, true, true, true, true, true, true, true, true, true, true, true, true, true, true, true, true, true, true, true, true, false, false]
abbrev q9_62 : Array Bool := #[true, true, true, true, true, true, true, true, true, true, true, true, true, true, true, true, true, true, true, true, true, true, true, true, true, true, true, true, true, true, true, true, true, true, true, true, true, true, true, true, true, true, true, true, false]
abbrev q9_63 : Array Bool := #[true, true, true, true, true, true, true, true, true, true, true, true, true, true, true, true, true, true, true, true, true, true, true, true, true, true, true, true, true, true, true, true, true, true, true, true, true, true, true, true, true, true, true, true, true]
abbrev q9_64 : Array Bool := #[true, true, true, true, true, true, true, true, true, true, true, true, true, true, true, true, true, true, true, true, true, true, false, false, false, false, false, false, false, false, false, false, false, false, false, false, false, false, false, false, false, false, false, false, false]
abbrev q9_65 : Array Bool := #[true, true, true, true, true, true, true, true, true, true, true, true, true, true, true, true, true, true, true, true, true, true, true, false, false, false, false, false, false, false, false, false, false, false, false, false, false, false, false, false, false, false, false, false, false]
abbrev q9_66 : Array Bool := #[true, true, true, true, true, true, true, true, true, true, true, true, true, true, true, true, true, true, true, true, true, true, true, true, false, false, false, false, false, false, false, false, false, false, false, false, false, false, false, false, false, false, false, false, false]
abbrev q9_67 : Array Bool := #[true, true, true, true, true, true, true, true, true, true, true, true, true, true, true, true, true, true, true, true, true, true, true, true, true, false, false, false, false, false, false, false, false, false, false, false, false, false, false, false, false, false, false, false, false]
abbrev q9_68 : Array Bool := #[true, true, true, true, true, true, true, true, true, true, true, true, true, true, true, true, true, true, true, true, true, true, true, true, true, true, false, false, false, false, false, false, false, false, false, false, false, false, false, false, false, false, false, false, false]
abbrev q9_69 : Array Bool := #[true, true, true, true, true, true, true, true, true, true, true, true, true, true, true, true, true, true, true, true, true, true, true, true, true, true, true, false, false, false, false, false, false, false, false, false, false, false, false, false, false, false, false, false, false]
abbrev q9_70 : Array Bool := #[true, true, true, true, true, true, true, true, true, true, true, true, true, true, true, true, true, true, true, true, true, true, true, true, true, true, true, true, false, false, false, false, false, false, false, false, false, false, false, false, false, false, false, false, false]
abbrev q9_71 : Array Bool := #[true, true, true, true, true, true, true, true, true, true, true, true, true, true, true, true, true, true, true, true, true, true, true, true, true, true, true, true, true, false, false, false, false, false, false, false, false, false, false, false, false, false, false, false, false]
abbrev q9_72 : Array Bool := #[true, true, true, true, true, true, true, true, true, true, true, true, true, true, true, true, true, true, true, true, true, true, true, true, true, true, true, true, true, true, false, false, false, false, false, false, false, false, false, false, false, false, false, false, false]
abbrev q9_73 : Array Bool := #[true, true, true, true, true, true, true, true, true, true, true, true, true, true, true, true, true, true, true, true, true, true, true, true, true, true, true, true, true, true, true, false, false, false, false, false, false, false, false, false, false, false, false, false, false]
abbrev q9_74 : Array Bool := #[true, true, true, true, true, true, true, true, true, true, true, true, true, true, true, true, true, true, true, true, true, true, true, true, true, true, true, true, true, true, true, true, false, false, false, false, false, false, false, false, false, false, false, false, false]
abbrev q9_75 : Array Bool := #[true, true, true, true, true, true, true, true, true, true, true, true, true, true, true, true, true, true, true, true, true, true, true, true, true, true, true, true, true, true, true, true, true, false, false, false, false, false, false, false, false, false, false, false, false]
abbrev q9_76 : Array Bool := #[true, true, true, true, true, true, true, true, true, true, true, true, true, true, true, true, true, true, true, true, true, true, true, true, true, true, true, true, true, true, true, true, true, true, false, false, false, false, false, false, false, false, false, false, false]
abbrev q9_77 : Array Bool := #[true, true, true, true, true, true, true, true, true, true, true, true, true, true, true, true, true, true, true, true, true, true, true, true, true, true, true, true, true, true, true, true, true, true, true, false, false, false, false, false, false, false, false, false, false]
abbrev q9_78 : Array Bool := #[true, true, true, true, true, true, true, true, true, true, true, true, true, true, true, true, true, true, true, true, true, true, true, true, true, true, true, true, true, true, true, true, true, true, true, true, false, false, false, false, false, false, false, false, false]
abbrev q9_79 : Array Bool := #[true, true, true, true, true, true, true, true, true, true, true, true, true, true, true, true, true, true, true, true, true, true, true, true, true, true, true, true, true, true, true, true, true, true, true, true, true, false, false, false, false, false, false, false, false]
abbrev q9_80 : Array Bool := #[true, true, true, true, true, true, true, true, true, true, true, true, true, true, true, true, true, true, true, true, true, true, true, true, true, true, true, true, true, true, true, true, true, true, true, true, true, true, false, false, false, false, false, false, false]
abbrev q9_81 : Array Bool := #[true, true, true, true, true, true, true, true, true, true, true, true, true, true, true, true, true, true, true, true, true, true, true, true, true, true, true, true, true, true, true, true, true, true, true, true, true, true, true, false, false, false, false, false, false]
abbrev q9_82 : Array Bool := #[true, true, true, true, true, true, true, true, true, true, true, true, true, true, true, true, true, true, true, true, true, true, true, true, true, true, true, true, true, true, true, true, true, true, true, true, true, true, true, true, false, false, false, false, false]
/-! ### laws_FnCarrySave: function 9 -/
mutual
def laws_FnCarrySave.l0 : Nat → List Int → Int → List (List Int) → Int → Int → Option (Bool)
 | 0, _, _, _, _, _ => none
 | k + 1, x0, x3, x4, x5, x6 => (laws_at.f x0 2).bind fun t105 => (if x6 < (wrap64 (1 + (Int.tmod t105 12))) then ((laws_fresh.f k x0 (wrap64 (3 + x6))).bind fun t106 => ((spec_MakeExact.f k t106 x3).bind fun t109 => (if x4.length < 5864062014805 then ((impl_ValueOf.f k t109).bind fun t115 => (laws_FnCarrySave.l0 k x0 x3 (x4 ++ [t109]) (wrap64 (x5 + t115)) (wrap64 (x6 + 1)))) else (none)))) else ((impl_LimitOf.f k x3).bind fun t116 => ((impl_TreeSum.f k x4).bind fun bt117 => (laws_FnCarrySave.l1 k x3 x4 x5 (wrap64 ((wrap64 (2 * t116)) + 1)) bt117.1 bt117.2.1 bt117.2.2 (([] : List (List Int))) (wrap64 ((x4.length : Int) - 1))))))
def laws_FnCarrySave.l1 : Nat → Int → List (List Int) → Int → Int → List Int → Int → Bool → List (List Int) → Int → Option (Bool)
 | 0, _, _, _, _, _, _, _, _, _ => none
 | k + 1, x3, x4, x5, x8, x9, x10, x11, x12, x13 => if x13 ≥ 0 then (if 0 ≤ x13 then (if x13 < (x4.length : Int) then (if x12.length < 5864062014805 then (laws_FnCarrySave.l1 k x3 x4 x5 x8 x9 x10 x11 (x12 ++ [rd_L2 x4 x13]) (wrap64 (x13 - 1))) else (none)) else (none)) else (none)) else ((impl_TreeSum.f k x12).bind fun bt129 => (if x11 = true then (if bt129.2.2 = true then ((laws_ints.f k x9 bt129.1).bind fun t134 => (if t134 = true then (if (x9.length : Int) = x3 then ((impl_ValueOf.f k x9).bind fun t135 => (if x8 = 0 then (none) else (if (Int.tmod (wrap64 (t135 - x5)) x8) = 0 then (if x10 < 0 then (laws_FnCarrySave.j2 k x3 x4 x8 x10 true) else (laws_FnCarrySave.j2 k x3 x4 x8 x10 (decide (x10 > 6)))) else (laws_FnCarrySave.j2 k x3 x4 x8 x10 true)))) else (laws_FnCarrySave.j2 k x3 x4 x8 x10 true)) else (laws_FnCarrySave.j2 k x3 x4 x8 x10 true))) else (laws_FnCarrySave.j2 k x3 x4 x8 x10 true)) else (laws_FnCarrySave.j2 k x3 x4 x8 x10 true)))
def laws_FnCarrySave.j2 : Nat → Int → List (List Int) → Int → Int → Bool → Option (Bool)
 | 0, _, _, _, _, _ => none
 | k + 1, x3, x4, x8, x10, x115 => if x115 = true then (some false) else (if (x4.length : Int) < 3 then (some (x10 == 0)) else (if 0 < (x4.length : Int) then (if 1 < (x4.length : Int) then (if 2 < (x4.length : Int) then ((impl_CarrySave.f k (rd_L2 x4 0) (rd_L2 x4 1) (rd_L2 x4 2)).bind fun bt139 => (if bt139.2.2 = true then (if (bt139.1.length : Int) = x3 then (if (bt139.2.1.length : Int) = x3 then (if 0 < (bt139.2.1.length : Int) then (if (rd bt139.2.1 0) = 0 then ((impl_ValueOf.f k bt139.1).bind fun t147 => ((impl_ValueOf.f k bt139.2.1).bind fun t148 => ((impl_ValueOf.f k (rd_L2 x4 0)).bind fun t150 => ((impl_ValueOf.f k (rd_L2 x4 1)).bind fun t152 => ((impl_ValueOf.f k (rd_L2 x4 2)).bind fun t154 => (if x8 = 0 then (none) else (some ((Int.tmod (wrap64 ((wrap64 ((wrap64 ((wrap64 (t147 + t148)) - t150)) - t152)) - t154)) x8) == 0)))))))) else (some false)) else (none)) else (some false)) else (some false)) else (some false))) else (none)) else (none)) else (none)))
end
def laws_FnCarrySave.f (k : Nat) (l0 : List Int) : Option (Bool) := if (l0.length : Int) > 1048576 then (some true) else ((laws_at.f l0 1).bind fun t101 => (laws_FnCarrySave.l0 k l0 (wrap64 (1 + (Int.tmod t101 12))) (([] : List (List Int))) 0 0))
theorem laws_FnCarrySave.mono_l : ∀ k, (∀ y0 y1 y2 y3 y4, LeO (laws_FnCarrySave.l0 k y0 y1 y2 y3 y4) (laws_FnCarrySave.l0 (k + 1) y0 y1 y2 y3 y4)) ∧ (∀ y0 y1 y2 y3 y4 y5 y6 y7 y8, LeO (laws_FnCarrySave.l1 k y0 y1 y2 y3 y4 y5 y6 y7 y8) (laws_FnCarrySave.l1 (k + 1) y0 y1 y2 y3 y4 y5 y6 y7 y8)) ∧ (∀ y0 y1 y2 y3 y4, LeO (laws_FnCarrySave.j2 k y0 y1 y2 y3 y4) (laws_FnCarrySave.j2 (k + 1) y0 y1 y2 y3 y4))
 | 0 => ⟨fun _ _ _ _ _ r h => by simp [laws_FnCarrySave.l0] at h, fun _ _ _ _ _ _ _ _ _ r h => by simp [laws_FnCarrySave.l1] at h, fun _ _ _ _ _ r h => by simp [laws_FnCarrySave.j2] at h⟩
 | k + 1 => by
  obtain ⟨ih0, ih1, ih2⟩ := laws_FnCarrySave.mono_l k
  refine ⟨?_, ?_, ?_⟩
  ·intro y0 y1 y2 y3 y4
   unfold laws_FnCarrySave.l0
   repeat' first
   | (with_reducible exact ih0 _ _ _ _ _)
   | (with_reducible exact ih1 _ _ _ _ _ _ _ _ _)
   | (with_reducible exact ih2 _ _ _ _ _)
   | (with_reducible exact impl_CarrySave.mono _ _ _ _)
   | (with_reducible exact impl_LimitOf.mono _ _)
   | (with_reducible exact impl_TreeSum.mono _ _)
   | (with_reducible exact impl_ValueOf.mono _ _)
   | (with_reducible exact laws_fresh.mono _ _ _)
   | (with_reducible exact laws_ints.mono _ _ _)
   | (with_reducible exact spec_MakeExact.mono _ _ _)
   | (with_reducible exact LeO.refl _)
   | (with_reducible exact LeO.none _)
   | (with_reducible refine LeO.ite ?_ ?_)
   | (with_reducible refine LeO.bind ?_ (fun _ => ?_))
   | exact ih0 _ _ _ _ _
   | exact ih1 _ _ _ _ _ _ _ _ _
   | exact ih2 _ _ _ _ _
   | exact impl_CarrySave.mono _ _ _ _
   | exact impl_LimitOf.mono _ _
   | exact impl_TreeSum.mono _ _
   | exact impl_ValueOf.mono _ _
   | exact laws_fresh.mono _ _ _
   | exact laws_ints.mono _ _ _
   | exact spec_MakeExact.mono _ _ _
   | exact LeO.none _
   | refine LeO.ite ?_ ?_
   | refine LeO.bind ?_ (fun _ => ?_)
  ·intro y0 y1 y2 y3 y4 y5 y6 y7 y8
   unfold laws_FnCarrySave.l1
   repeat' first
   | (with_reducible exact ih0 _ _ _ _ _)
   | (with_reducible exact ih1 _ _ _ _ _ _ _ _ _)
   | (with_reducible exact ih2 _ _ _ _ _)
   | (with_reducible exact impl_CarrySave.mono _ _ _ _)
   | (with_reducible exact impl_LimitOf.mono _ _)
   | (with_reducible exact impl_TreeSum.mono _ _)
   | (with_reducible exact impl_ValueOf.mono _ _)
   | (with_reducible exact laws_fresh.mono _ _ _)
   | (with_reducible exact laws_ints.mono _ _ _)
   | (with_reducible exact spec_MakeExact.mono _ _ _)
   | (with_reducible exact LeO.refl _)
   | (with_reducible exact LeO.none _)
   | (with_reducible refine LeO.ite ?_ ?_)
   | (with_reducible refine LeO.bind ?_ (fun _ => ?_))
   | exact ih0 _ _ _ _ _
   | exact ih1 _ _ _ _ _ _ _ _ _
   | exact ih2 _ _ _ _ _
   | exact impl_CarrySave.mono _ _ _ _
   | exact impl_LimitOf.mono _ _
   | exact impl_TreeSum.mono _ _
   | exact impl_ValueOf.mono _ _
   | exact laws_fresh.mono _ _ _
   | exact laws_ints.mono _ _ _
   | exact spec_MakeExact.mono _ _ _
   | exact LeO.none _
   | refine LeO.ite ?_ ?_
   | refine LeO.bind ?_ (fun _ => ?_)
  ·intro y0 y1 y2 y3 y4
   unfold laws_FnCarrySave.j2
   repeat' first
   | (with_reducible exact ih0 _ _ _ _ _)
   | (with_reducible exact ih1 _ _ _ _ _ _ _ _ _)
   | (with_reducible exact ih2 _ _ _ _ _)
   | (with_reducible exact impl_CarrySave.mono _ _ _ _)
   | (with_reducible exact impl_LimitOf.mono _ _)
   | (with_reducible exact impl_TreeSum.mono _ _)
   | (with_reducible exact impl_ValueOf.mono _ _)
   | (with_reducible exact laws_fresh.mono _ _ _)
   | (with_reducible exact laws_ints.mono _ _ _)
   | (with_reducible exact spec_MakeExact.mono _ _ _)
   | (with_reducible exact LeO.refl _)
   | (with_reducible exact LeO.none _)
   | (with_reducible refine LeO.ite ?_ ?_)
   | (with_reducible refine LeO.bind ?_ (fun _ => ?_))
   | exact ih0 _ _ _ _ _
   | exact ih1 _ _ _ _ _ _ _ _ _
   | exact ih2 _ _ _ _ _
   | exact impl_CarrySave.mono _ _ _ _
   | exact impl_LimitOf.mono _ _
   | exact impl_TreeSum.mono _ _
   | exact impl_ValueOf.mono _ _
   | exact laws_fresh.mono _ _ _
   | exact laws_ints.mono _ _ _
   | exact spec_MakeExact.mono _ _ _
   | exact LeO.none _
   | refine LeO.ite ?_ ?_
   | refine LeO.bind ?_ (fun _ => ?_)
theorem laws_FnCarrySave.mono : ∀ a0 k, LeO (laws_FnCarrySave.f k a0) (laws_FnCarrySave.f (k + 1) a0) := by
 intro a0 k
 obtain ⟨ih0, ih1, ih2⟩ := laws_FnCarrySave.mono_l k
 unfold laws_FnCarrySave.f
 repeat' first
   | (with_reducible exact ih0 _ _ _ _ _)
   | (with_reducible exact ih1 _ _ _ _ _ _ _ _ _)
   | (with_reducible exact ih2 _ _ _ _ _)
   | (with_reducible exact impl_CarrySave.mono _ _ _ _)
   | (with_reducible exact impl_LimitOf.mono _ _)
   | (with_reducible exact impl_TreeSum.mono _ _)
   | (with_reducible exact impl_ValueOf.mono _ _)
   | (with_reducible exact laws_fresh.mono _ _ _)
   | (with_reducible exact laws_ints.mono _ _ _)
   | (with_reducible exact spec_MakeExact.mono _ _ _)
   | (with_reducible exact LeO.refl _)
   | (with_reducible exact LeO.none _)
   | (with_reducible refine LeO.ite ?_ ?_)
   | (with_reducible refine LeO.bind ?_ (fun _ => ?_))
   | exact ih0 _ _ _ _ _
   | exact ih1 _ _ _ _ _ _ _ _ _
   | exact ih2 _ _ _ _ _
   | exact impl_CarrySave.mono _ _ _ _
   | exact impl_LimitOf.mono _ _
   | exact impl_TreeSum.mono _ _
   | exact impl_ValueOf.mono _ _
   | exact laws_fresh.mono _ _ _
   | exact laws_ints.mono _ _ _
   | exact spec_MakeExact.mono _ _ _
   | exact LeO.none _
   | refine LeO.ite ?_ ?_
   | refine LeO.bind ?_ (fun _ => ?_)
def laws_FnCarrySave.T24 : Bool × List (List Nat × List Nat) := (true, [([], []), ([0], [0]), ([1], [1]), ([], []), ([3], [3]), ([4], [4]), ([], []), ([6], [6]), ([7], [7]), ([2, 5, 8], [2, 5, 8]), ([9], [9]), ([10], [10]), ([10], [10]), ([10], [10]), ([11, 9, 0, 1, 2, 3, 4, 5, 6, 7, 8, 9, 10, 11], [11]), ([12, 14, 0, 1, 2, 3, 4, 5, 6, 7, 8, 9, 10, 11, 12, 14], [12]), ([13, 15, 0, 1, 2, 3, 4, 5, 6, 7, 8, 9, 10, 11, 12, 13, 14, 15], [13])])
def laws_FnCarrySave.B24 : List Nat := [0, 1, 3, 0, 8, 24, 0, 64, 192, 511, 1023, 2047, 2047, 2047, 4095, 24575, 65535]
theorem laws_FnCarrySave.tab24 : rtab .any (opsOf Try.f9 24) = laws_FnCarrySave.T24 := by kernel_rfl
theorem laws_FnCarrySave.bits24 : waitsOk laws_FnCarrySave.T24.2 laws_FnCarrySave.B24 = true := by kernel_rfl
def laws_FnCarrySave.T25 : Bool × List (List Nat × List Nat) := (true, [([], []), ([0], [0]), ([1], [1]), ([2, 1], [1, 2]), ([1], [1]), ([3, 4, 1], [1, 3, 4]), ([1, 5], [1, 5]), ([6, 1], [6]), ([7], [7]), ([8, 7], [7, 8]), ([7], [7]), ([9, 10, 7], [7, 9, 10]), ([7, 11], [7, 11]), ([12, 7], [12]), ([13], [13]), ([14, 13], [13, 14]), ([15, 13], [13, 15]), ([16, 13], [13, 16]), ([13, 17], [13, 17]), ([18, 13], [18]), ([19], [19]), ([20, 19, 19], [19, 20]), ([19], [19]), ([22, 21, 19], [19, 22]), ([21, 23, 19], [19, 21, 23]), ([19], [19]), ([25, 19], [19, 25]), ([26, 19], [19, 26]), ([27, 23, 19], [19, 27]), ([24, 28, 19], [19, 24, 28]), ([19], [19]), ([30, 19], [19, 30]), ([31, 19], [19, 31]), ([32, 28, 19], [19, 32]), ([29, 33, 19], [19, 29, 33]), ([19], [19]), ([35, 19], [19, 35]), ([36, 19], [19, 36]), ([37, 33, 19], [19, 37]), ([34, 38, 19], [19, 34, 38]), ([19], [19]), ([39, 40, 19], [19, 39, 40]), ([41, 19], [19, 41]), ([19, 42], [19, 42]), ([43, 38, 0, 1, 2, 3, 4, 5, 6, 7, 8, 9, 10, 11, 12, 13, 14, 15, 16, 17, 18, 19, 20, 21, 22, 23, 24, 25, 26, 27, 28, 29, 30, 31, 32, 33, 34, 35, 36, 37, 38, 39, 40, 41, 42, 43], [43])])
def laws_FnCarrySave.B25 : List Nat := [0, 1, 3, 7, 3, 31, 63, 127, 255, 511, 255, 2047, 4095, 8191, 16383, 32767, 65535, 131071, 262143, 524287, 1048575, 2097151, 1048575, 8388607, 16777215, 1048575, 34603007, 101711871, 251658239, 536870911, 1048575, 1074790399, 3222274047, 8036286463, 17179869183, 1048575, 34360786943, 103080263679, 257144389631, 549755813887, 1048575, 2199023255551, 4398046511103, 8796093022207, 17592186044415]
theorem laws_FnCarrySave.tab25 : rtab .any (opsOf Try.f9 25) = laws_FnCarrySave.T25 := by kernel_rfl
theorem laws_FnCarrySave.bits25 : waitsOk laws_FnCarrySave.T25.2 laws_FnCarrySave.B25 = true := by kernel_rfl
set_option maxHeartbeats 8000000 in
set_option maxRecDepth 100000 in
theorem laws_FnCarrySave.calls (k : Nat) (A0 : Option Addr) (c0 : Nat) (l0 : List Int) (r : Bool) (w : World) (hr0 : Kd.C (Kd.int .u8) w A0 l0.length l0) (hc0 : l0.length ≤ c0) (h : laws_FnCarrySave.f k l0 = some r) :
  Calls Try.prog 9 #[.slice A0 l0.length c0] w fun e w' => e = .returned (.bool r) ∧ Below w.heap.size w w' := by
 have HR0 := Aside0.mk hr0
 have HC0 := Aside0.mk hc0
 clear hr0 hc0
 have HB := Aside0.mk (Below.refl w.heap.size w)
 have H : (if (l0.length : Int) > 1048576 then (some true) else ((laws_at.f l0 1).bind fun t101 => (laws_FnCarrySave.l0 k l0 (wrap64 (1 + (Int.tmod t101 12))) (([] : List (List Int))) 0 0))) = some r := h
 clear h
 by_cases c2 : (l0.length : Int) > 1048576
 ·rw [if_pos c2] at H
  have c2b0 : decide (1048576 < (l0.length : Int)) = true := decide_eq_true c2
  have c2b1 : decide (1048576 < l0.length) = true := decide_eq_true (by omega)
  clear c2
  obtain rfl := Option.some.inj H
  go_enter Try.func9, Try.ntmps9
  go_wp2
  go_ret
  exact ⟨by first | rfl | (simp [errW_none, errW_some] <;> rfl) | (simp [*, errW_none, errW_some] <;> rfl), by repeat (first | (with_reducible first | exact HB.out | apply below_alloc | apply pw_below_drewN | apply below_drew1) | exact HB.out)⟩
 ·rw [if_neg c2] at H
  have c2b0 : decide (1048576 < (l0.length : Int)) = false := decide_eq_false c2
  have c2b1 : decide (1048576 < l0.length) = false := decide_eq_false (by omega)
  clear c2
  replace H := Option.bind_eq_some_iff.mp H
  obtain ⟨t101, A30, H⟩ := H
  replace H : (laws_FnCarrySave.l0 k l0 (wrap64 (1 + (Int.tmod t101 12))) (([] : List (List Int))) 0 0) = some r := H
  have A3 := Aside0.mk A30
  clear A30
  obtain ⟨y102, hy102⟩ : ∃ y_ : List (List Int), y_ = (([] : List (List Int))) := ⟨_, rfl⟩
  replace H : (laws_FnCarrySave.l0 k l0 (wrap64 (1 + (Int.tmod t101 12))) y102 0 0) = some r := by first | (rw [hy102]; with_reducible exact H) | (have H2_ := (Option.bind_some _ _).symm.trans H; rw [hy102]; with_reducible exact H2_) | (have H2_ := (Option.bind_some _ _).symm.trans H; with_reducible exact H2_) | with_reducible exact H | (rw [hy102]; exact H) | exact H
  have Ny102 := Aside0.mk hy102
  clear hy102
  have H' := Aside0.mk H
  clear H
  go_enter Try.func9, Try.ntmps9
  go_wp2_with (first | ((with_reducible refine gate_callee (f := 32) rfl ?_); refine goesL_ (some 24) rfl rfl Try.func32 (by kernel_rfl) rfl #[.slice A0 l0.length c0, .int .i64 1] rfl (by (try simp only [List.map_toArray, List.map_cons, List.map_nil]); first | done | rfl | (simp only [List.length_drop, List.length_take]; rfl)) ?_; (with_reducible refine (laws_at.calls _ _ l0 1 t101 _ ?side1 ?side2 A3.out).mono ?_); (case side1 => repeat (first | exact HR0.out | (with_reducible refine Kd.C_alloc ?_ _) | (with_reducible refine Kd.C_drewN ?_ _) | (with_reducible refine Kd.C_drew ?_))); (case side2 => exact HC0.out); rintro e w' ⟨rfl, ⟨nd, rfl⟩⟩; refine ⟨_, rfl, ?_⟩) | ((with_reducible refine gate_dst (N := 27) rfl ?_); (try (refine gate_guard (by rfl) ?_; dsimp only)); refine Kd.N_lit (Kd.slice 3 (Kd.int .i64)) _ 22 ?hg (N' := 27) ?hd (xs := ([] : List (List Int))) (inner := []) (ok := (fun _ => True)) (okp := (fun _ => True)) ?hr ?hp (fun _ hk => hk) ((show ∀ k_, w.heap.size ≤ k_ → (fun _ => True) k_ from fun k_ hk => trivial) _ (Nat.le_refl _)) (Below.refl _ _) (Nat.le_refl _) (by simp) ?_; (case hd => rfl); (case hg => rfl); (case hr => first | (go_simp; done) | (go_simp; rfl)); (case hp => exact (Reps.none _ _)); intro v103 w4 ho5 hb hg_ hnew_; clear hg_ hnew_; (first | rw [← Ny102.out] at ho5 | (simp only [Int.reduceToNat] at ho5; rw [← Ny102.out] at ho5)); have n0_ := Aside0.mk (Kd.N_lower ho5 (below_size (by repeat (first | (with_reducible first | exact HB.out | apply below_alloc | apply pw_below_drewN | apply below_drew1) | exact HB.out)))); have n1_ := Aside0.mk (below_step (by repeat (first | (with_reducible first | exact HB.out | apply below_alloc | apply pw_below_drewN | apply below_drew1) | exact HB.out)) hb); clear HB; have HO104 := n0_; have HB := n1_; clear n0_ n1_; clear hb ho5))
  go_loopg [4, 5, 6] k (fun kq v4 v5 v6 w' => ∃ (x4_1 : List (List Int)) (x5_1 : Int) (x6_1 : Int), v5 = .int .i64 x5_1 ∧ v6 = .int .i64 x6_1 ∧ Aside0 (laws_FnCarrySave.l0 kq l0 (wrap64 (1 + (Int.tmod t101 12))) x4_1 x5_1 x6_1 = some r) ∧ Aside0 (kq ≤ k) ∧ Aside0 (Kd.N (Kd.slice 3 (Kd.int .i64)) 22 w' w.heap.size (fun _ => True) v4 x4_1) ∧ Aside0 (Below w.heap.size w w'))
  case atStart => exact ⟨(y102), (0), (0), (by first | rfl | (simp; done) | (simp [*]; done)), (by first | rfl | (simp; done) | (simp [*]; done)), H', ⟨Nat.le_refl _⟩, ⟨by (with_reducible repeat (first | apply Kd.N_alloc | apply Kd.N_drewN | apply Kd.N_drew)); exact HO104.out⟩, ⟨by repeat (first | (with_reducible first | exact HB.out | apply below_alloc | apply pw_below_drewN | apply below_drew1) | exact HB.out)⟩⟩
  case round =>
   clear H'
   try clear c2
   try clear c2b0
   try clear c2b1
   try clear p2
   try clear c3
   obtain ⟨x4_1, x5_1, x6_1, rfl, rfl, HA, HK1, HO_4, HB⟩ := hrel
   cases gk with
   | zero => exact absurd HA.out (by simp [laws_FnCarrySave.l0])
   | succ k1 =>
    have H := HA.out
    clear HA
    simp only [laws_FnCarrySave.l0] at H
    replace H := Option.bind_eq_some_iff.mp H
    obtain ⟨t105, A60, H⟩ := H
    replace H : (if x6_1 < (wrap64 (1 + (Int.tmod t105 12))) then ((laws_fresh.f k1 l0 (wrap64 (3 + x6_1))).bind fun t106 => ((spec_MakeExact.f k1 t106 (wrap64 (1 + (Int.tmod t101 12)))).bind fun t109 => (if x4_1.length < 5864062014805 then ((impl_ValueOf.f k1 t109).bind fun t115 => (laws_FnCarrySave.l0 k1 l0 (wrap64 (1 + (Int.tmod t101 12))) (x4_1 ++ [t109]) (wrap64 (x5_1 + t115)) (wrap64 (x6_1 + 1)))) else (none)))) else ((impl_LimitOf.f k1 (wrap64 (1 + (Int.tmod t101 12)))).bind fun t116 => ((impl_TreeSum.f k1 x4_1).bind fun bt117 => (laws_FnCarrySave.l1 k1 (wrap64 (1 + (Int.tmod t101 12))) x4_1 x5_1 (wrap64 ((wrap64 (2 * t116)) + 1)) bt117.1 bt117.2.1 bt117.2.2 (([] : List (List Int))) (wrap64 ((x4_1.length : Int) - 1)))))) = some r := H
    have A6 := Aside0.mk A60
    clear A60
    by_cases c7 : x6_1 < (wrap64 (1 + (Int.tmod t105 12)))
    ·rw [if_pos c7] at H
     have c7b0 : decide (x6_1 < (wrap64 (1 + (Int.tmod t105 12)))) = true := decide_eq_true c7
     clear c7
     replace H := Option.bind_eq_some_iff.mp H
     obtain ⟨t106, A80, H⟩ := H
     replace H : ((spec_MakeExact.f k1 t106 (wrap64 (1 + (Int.tmod t101 12)))).bind fun t109 => (if x4_1.length < 5864062014805 then ((impl_ValueOf.f k1 t109).bind fun t115 => (laws_FnCarrySave.l0 k1 l0 (wrap64 (1 + (Int.tmod t101 12))) (x4_1 ++ [t109]) (wrap64 (x5_1 + t115)) (wrap64 (x6_1 + 1)))) else (none))) = some r := H
     have A8 := Aside0.mk A80
     clear A80
     replace H := Option.bind_eq_some_iff.mp H
     obtain ⟨t109, A90, H⟩ := H
     replace H : (if x4_1.length < 5864062014805 then ((impl_ValueOf.f k1 t109).bind fun t115 => (laws_FnCarrySave.l0 k1 l0 (wrap64 (1 + (Int.tmod t101 12))) (x4_1 ++ [t109]) (wrap64 (x5_1 + t115)) (wrap64 (x6_1 + 1)))) else (none)) = some r := H
     have A9 := Aside0.mk A90
     clear A90
     by_cases c10 : x4_1.length < 5864062014805
     ·rw [if_pos c10] at H
      have LMc10 := Aside0.mk c10
      clear c10
      obtain ⟨y112, hy112⟩ : ∃ y_ : List (List Int), y_ = (x4_1 ++ [t109]) := ⟨_, rfl⟩
      replace H : ((impl_ValueOf.f k1 t109).bind fun t115 => (laws_FnCarrySave.l0 k1 l0 (wrap64 (1 + (Int.tmod t101 12))) y112 (wrap64 (x5_1 + t115)) (wrap64 (x6_1 + 1)))) = some r := by first | (rw [hy112]; with_reducible exact H) | (have H2_ := (Option.bind_some _ _).symm.trans H; rw [hy112]; with_reducible exact H2_) | (have H2_ := (Option.bind_some _ _).symm.trans H; with_reducible exact H2_) | with_reducible exact H | (rw [hy112]; exact H) | exact H
      have Ny112 := Aside0.mk hy112
      clear hy112
      replace H := Option.bind_eq_some_iff.mp H
      obtain ⟨t115, A110, H⟩ := H
      replace H : (laws_FnCarrySave.l0 k1 l0 (wrap64 (1 + (Int.tmod t101 12))) y112 (wrap64 (x5_1 + t115)) (wrap64 (x6_1 + 1))) = some r := H
      have A11 := Aside0.mk A110
      clear A110
      have H' := Aside0.mk H
      clear H
      go_wp2_with (first | ((with_reducible refine gate_callee (f := 32) rfl ?_); refine goesL_ (some 30) rfl rfl Try.func32 (by kernel_rfl) rfl #[.slice A0 l0.length c0, .int .i64 2] rfl (by (try simp only [List.map_toArray, List.map_cons, List.map_nil]); first | done | rfl | (simp only [List.length_drop, List.length_take]; rfl)) ?_; (with_reducible refine (laws_at.calls _ _ l0 2 t105 _ ?side1 ?side2 A6.out).mono ?_); (case side1 => repeat (first | exact (Kd.C_below HR0.out HB.out) | (with_reducible refine Kd.C_alloc ?_ _) | (with_reducible refine Kd.C_drewN ?_ _) | (with_reducible refine Kd.C_drew ?_))); (case side2 => exact HC0.out); rintro e w' ⟨rfl, ⟨nd, rfl⟩⟩; refine ⟨_, rfl, ?_⟩) | ((with_reducible refine gate_callee (f := 25) rfl ?_); refine goesL_ (some 39) rfl rfl Try.func25 (by kernel_rfl) rfl #[.slice A0 l0.length c0, .int .i64 (wrap64 (3 + x6_1))] rfl (by (try simp only [List.map_toArray, List.map_cons, List.map_nil]); first | done | rfl | (simp only [List.length_drop, List.length_take]; rfl)) ?_; (with_reducible refine (laws_fresh.calls k1 _ _ l0 (wrap64 (3 + x6_1)) t106 _ ?side1 ?side2 A8.out).mono ?_); (case side1 => repeat (first | exact (Kd.C_below HR0.out (by repeat (first | (with_reducible first | exact HB.out | apply below_alloc | apply pw_below_drewN | apply below_drew1) | exact HB.out))) | (with_reducible refine Kd.C_alloc ?_ _) | (with_reducible refine Kd.C_drewN ?_ _) | (with_reducible refine Kd.C_drew ?_))); (case side2 => exact HC0.out); rintro e w12 ⟨v107, rfl, ho0, hb⟩; refine ⟨_, rfl, ?_⟩; have n0_ := Aside0.mk (Kd.N_elder' (by (with_reducible repeat (first | apply Kd.N_alloc | apply Kd.N_drewN | apply Kd.N_drew)); exact HO_4.out) (Kd.R_base ho0) hb); have n1_ := Aside0.mk (Kd.R_lower ho0 (below_size (by repeat (first | (with_reducible first | exact HB.out | apply below_alloc | apply pw_below_drewN | apply below_drew1) | exact HB.out)))); have n2_ := Aside0.mk (below_step (by repeat (first | (with_reducible first | exact HB.out | apply below_alloc | apply pw_below_drewN | apply below_drew1) | exact HB.out)) hb); clear HO_4; clear HB; have HO_4 := n0_; have HO108 := n1_; have HB := n2_; clear n0_ n1_ n2_; (try clear hb); (try clear hb2); (try clear hk); (try clear hi); (try clear ho0); obtain ⟨Ao13, co13, eo13⟩ := Kd.R_slice HO108.out; subst eo13) | ((with_reducible refine gate_callee (f := 37) rfl ?_); refine goesL_ (some 41) rfl rfl Try.func37 (by kernel_rfl) rfl #[.slice Ao13 t106.length co13, .int .i64 (wrap64 (1 + (Int.tmod t101 12)))] rfl (by (try simp only [List.map_toArray, List.map_cons, List.map_nil]); first | done | rfl | (simp only [List.length_drop, List.length_take]; rfl)) ?_; (with_reducible refine (spec_MakeExact.calls k1 _ _ t106 (wrap64 (1 + (Int.tmod t101 12))) t109 _ ?side1 ?side2 A9.out).mono ?_); (case side1 => repeat (first | exact (Kd.R_reads' HO108.out).2.2 | (with_reducible refine Kd.C_alloc ?_ _) | (with_reducible refine Kd.C_drewN ?_ _) | (with_reducible refine Kd.C_drew ?_))); (case side2 => exact (Kd.R_reads' HO108.out).2.1); rintro e w14 ⟨v110, rfl, ho0, hb⟩; refine ⟨_, rfl, ?_⟩; have n0_ := Aside0.mk (Kd.N_elder' (by (with_reducible repeat (first | apply Kd.N_alloc | apply Kd.N_drewN | apply Kd.N_drew)); exact HO_4.out) (Kd.R_base ho0) hb); have n1_ := Aside0.mk (Kd.R_below (by (with_reducible repeat (first | apply Kd.R_alloc | apply Kd.R_drewN | apply Kd.R_drew)); exact HO108.out) hb); have n2_ := Aside0.mk (Kd.R_lower ho0 (below_size (by repeat (first | (with_reducible first | exact HB.out | apply below_alloc | apply pw_below_drewN | apply below_drew1) | exact HB.out)))); have n3_ := Aside0.mk (below_step (by repeat (first | (with_reducible first | exact HB.out | apply below_alloc | apply pw_below_drewN | apply below_drew1) | exact HB.out)) hb); clear HO_4; clear HO108; clear HB; have HO_4 := n0_; have HO108 := n1_; have HO111 := n2_; have HB := n3_; clear n0_ n1_ n2_ n3_; (try clear hb); (try clear hb2); (try clear hk); (try clear hi); (try clear ho0); obtain ⟨Ao16, co16, eo16⟩ := Kd.R_slice HO111.out; subst eo16) | ((with_reducible refine gate_builtin (b := .append) (xs := #[.tmp 42, .tmp 44]) rfl ?_); (try (refine gate_guard (by rfl) ?_; dsimp only)); at_builtin; refine Kd.N_append (Kd.slice 3 (Kd.int .i64)) (w0 := w) w.heap.size rfl (.tmp 42) (.tmp 44) 37 22 (.slice none 0 0) 24 rfl Try.underlying37 info22 rfl (by decide) (by omega) u4 x4_1 t109 [.slice Ao16 t109.length co16] (fun k_ => some k_ ≠ (.slice Ao13 t106.length co13 : Value).ownBlock) (fun k_ => ((fun k_ => some k_ ≠ (.slice Ao13 t106.length co13 : Value).ownBlock)) k_ ∧ some k_ ≠ (u4 : Value).ownBlock) rfl rfl ?aP (fun _ hk => hk) ?aF ?aO ?aB ?aS ?aL ?_; (case aP => exact (Kd.FK_slice_mk (Kd.R_reads' (Kd.R_mono (ok' := (fun k_ => ((fun k_ => some k_ ≠ (.slice Ao13 t106.length co13 : Value).ownBlock)) k_ ∧ some k_ ≠ (u4 : Value).ownBlock)) (Kd.R_apart' (Kd.R_apart' (HO111.out) (Kd.R_typed HO108.out) (by decide)) (Kd.N_typed HO_4.out) (by decide)) (fun k_ hk => ⟨hk.1.2, hk.2⟩))).2.1 (Kd.R_F (Kd.R_mono (ok' := (fun k_ => ((fun k_ => some k_ ≠ (.slice Ao13 t106.length co13 : Value).ownBlock)) k_ ∧ some k_ ≠ (u4 : Value).ownBlock)) (Kd.R_apart' (Kd.R_apart' (HO111.out) (Kd.R_typed HO108.out) (by decide)) (Kd.N_typed HO_4.out) (by decide)) (fun k_ hk => ⟨hk.1.2, hk.2⟩))))); (case aB => exact (by repeat (first | (with_reducible first | exact HB.out | apply below_alloc | apply pw_below_drewN | apply below_drew1) | exact HB.out))); (case aF => exact (fun k_ hk => Kd.fresh' (Kd.R_lt (by (with_reducible repeat (first | apply Kd.R_alloc | apply Kd.R_drewN | apply Kd.R_drew)); exact HO108.out)) k_ hk)); (case aO => exact (by (with_reducible repeat (first | apply Kd.N_alloc | apply Kd.N_drewN | apply Kd.N_drew)); exact Kd.N_mono HO_4.out (fun _ hk => hk.1.2))); (case aS => exact (below_size (by repeat (first | (with_reducible first | exact HB.out | apply below_alloc | apply pw_below_drewN | apply below_drew1) | exact HB.out)))); (case aL => have := LMc10.out; omega); intro v113 w15 ho hb hg hat; rw [← Ny112.out] at ho; have n0_ := Aside0.mk (Kd.R_over' (by (with_reducible repeat (first | apply Kd.R_alloc | apply Kd.R_drewN | apply Kd.R_drew)); exact HO108.out) (Kd.N_typed (by (with_reducible repeat (first | apply Kd.N_alloc | apply Kd.N_drewN | apply Kd.N_drew)); exact HO_4.out)) (by decide) hg); have n1_ := Aside0.mk (hb); have n2_ := Aside0.mk (ho); have n9_ := Aside0.mk (Kd.R_over' (by (with_reducible repeat (first | apply Kd.R_alloc | apply Kd.R_drewN | apply Kd.R_drew)); exact HO111.out) (Kd.N_typed (by (with_reducible repeat (first | apply Kd.N_alloc | apply Kd.N_drewN | apply Kd.N_drew)); exact HO_4.out)) (by decide) hg); clear HO108; clear HB; clear HO_4; clear HO111; have HO111 := n9_; clear n9_; have HO108 := n0_; have HB := n1_; have HO114 := n2_; clear n0_ n1_ n2_; clear ho hb hg hat) | ((with_reducible refine gate_callee (f := 29) rfl ?_); refine goesL_ (some 48) rfl rfl Try.func29 (by kernel_rfl) rfl #[.slice Ao16 t109.length co16] rfl (by (try simp only [List.map_toArray, List.map_cons, List.map_nil]); first | done | rfl | (simp only [List.length_drop, List.length_take]; rfl)) ?_; (with_reducible refine (impl_ValueOf.calls k1 _ _ t109 t115 _ ?side1 ?side2 A11.out).mono ?_); (case side1 => repeat (first | exact (Kd.R_reads' HO111.out).2.2 | (with_reducible refine Kd.C_alloc ?_ _) | (with_reducible refine Kd.C_drewN ?_ _) | (with_reducible refine Kd.C_drew ?_))); (case side2 => exact (Kd.R_reads' HO111.out).2.1); rintro e w' ⟨rfl, ⟨nd, rfl⟩⟩; refine ⟨_, rfl, ?_⟩))
      go_roundg k1
      case measure => have := HK1.out; omega
      case rel => exact ⟨(y112), (wrap64 (x5_1 + t115)), (wrap64 (x6_1 + 1)), (by first | rfl | (simp; done) | (simp [*]; done)), (by first | rfl | (simp; done) | (simp [*]; done)), H', ⟨by have := HK1.out; omega⟩, ⟨by (with_reducible repeat (first | apply Kd.N_alloc | apply Kd.N_drewN | apply Kd.N_drew)); exact Kd.N_mono HO114.out (fun _ hk => trivial)⟩, ⟨by repeat (first | (with_reducible first | exact HB.out | apply below_alloc | apply pw_below_drewN | apply below_drew1) | exact HB.out)⟩⟩
     ·rw [if_neg c10] at H
      exact absurd H (by simp)
    ·rw [if_neg c7] at H
     have c7b0 : decide (x6_1 < (wrap64 (1 + (Int.tmod t105 12)))) = false := decide_eq_false c7
     clear c7
     replace H := Option.bind_eq_some_iff.mp H
     obtain ⟨t116, A170, H⟩ := H
     replace H : ((impl_TreeSum.f k1 x4_1).bind fun bt117 => (laws_FnCarrySave.l1 k1 (wrap64 (1 + (Int.tmod t101 12))) x4_1 x5_1 (wrap64 ((wrap64 (2 * t116)) + 1)) bt117.1 bt117.2.1 bt117.2.2 (([] : List (List Int))) (wrap64 ((x4_1.length : Int) - 1)))) = some r := H
     have A17 := Aside0.mk A170
     clear A170
     replace H := Option.bind_eq_some_iff.mp H
     obtain ⟨⟨t117, t120, t121⟩, A180, H⟩ := H
     replace H : (laws_FnCarrySave.l1 k1 (wrap64 (1 + (Int.tmod t101 12))) x4_1 x5_1 (wrap64 ((wrap64 (2 * t116)) + 1)) t117 t120 t121 (([] : List (List Int))) (wrap64 ((x4_1.length : Int) - 1))) = some r := H
     have A18 := Aside0.mk A180
     clear A180
     obtain ⟨y122, hy122⟩ : ∃ y_ : List (List Int), y_ = (([] : List (List Int))) := ⟨_, rfl⟩
     replace H : (laws_FnCarrySave.l1 k1 (wrap64 (1 + (Int.tmod t101 12))) x4_1 x5_1 (wrap64 ((wrap64 (2 * t116)) + 1)) t117 t120 t121 y122 (wrap64 ((x4_1.length : Int) - 1))) = some r := by first | (rw [hy122]; with_reducible exact H) | (have H2_ := (Option.bind_some _ _).symm.trans H; rw [hy122]; with_reducible exact H2_) | (have H2_ := (Option.bind_some _ _).symm.trans H; with_reducible exact H2_) | with_reducible exact H | (rw [hy122]; exact H) | exact H
     have Ny122 := Aside0.mk hy122
     clear hy122
     have H' := Aside0.mk H
     clear H
     go_wp2_with (first | ((with_reducible refine gate_callee (f := 32) rfl ?_); refine goesL_ (some 30) rfl rfl Try.func32 (by kernel_rfl) rfl #[.slice A0 l0.length c0, .int .i64 2] rfl (by (try simp only [List.map_toArray, List.map_cons, List.map_nil]); first | done | rfl | (simp only [List.length_drop, List.length_take]; rfl)) ?_; (with_reducible refine (laws_at.calls _ _ l0 2 t105 _ ?side1 ?side2 A6.out).mono ?_); (case side1 => repeat (first | exact (Kd.C_below HR0.out HB.out) | (with_reducible refine Kd.C_alloc ?_ _) | (with_reducible refine Kd.C_drewN ?_ _) | (with_reducible refine Kd.C_drew ?_))); (case side2 => exact HC0.out); rintro e w' ⟨rfl, ⟨nd, rfl⟩⟩; refine ⟨_, rfl, ?_⟩) | ((with_reducible refine gate_callee (f := 40) rfl ?_); refine goesL_ (some 51) rfl rfl Try.func40 (by kernel_rfl) rfl #[.int .i64 (wrap64 (1 + (Int.tmod t101 12)))] rfl (by (try simp only [List.map_toArray, List.map_cons, List.map_nil]); first | done | rfl | (simp only [List.length_drop, List.length_take]; rfl)) ?_; (with_reducible refine (impl_LimitOf.calls k1 (wrap64 (1 + (Int.tmod t101 12))) t116 _ A17.out).mono ?_); rintro e w' ⟨rfl, ⟨nd, rfl⟩⟩; refine ⟨_, rfl, ?_⟩; obtain ⟨Ao19, co19, eo19⟩ := Kd.N_slice HO_4.out; subst eo19) | ((with_reducible refine gate_callee (f := 30) rfl ?_); refine goesL_ (some 56) rfl rfl Try.func30 (by kernel_rfl) rfl #[.slice Ao19 x4_1.length co19] rfl (by (try simp only [List.map_toArray, List.map_cons, List.map_nil]); first | done | rfl | (simp only [List.length_drop, List.length_take]; rfl)) ?_; (with_reducible refine (impl_TreeSum.calls k1 (fun k_ => True) _ _ x4_1 t117 t120 t121 _ ?side1 A18.out).mono ?_); (case side1 => exact Kd.N_V (HO_4.out)); rintro e w20 ⟨v118, rfl, ho0, hb⟩; refine ⟨_, rfl, ?_⟩; have n0_ := Aside0.mk (Kd.N_elder' (by (with_reducible repeat (first | apply Kd.N_alloc | apply Kd.N_drewN | apply Kd.N_drew)); exact HO_4.out) (Kd.R_base ho0) hb); have n1_ := Aside0.mk (Kd.R_lower (Kd.R_mono (ok' := fun k_ => True) ho0 (fun _ hk_ => trivial)) (below_size (by repeat (first | (with_reducible first | exact HB.out | apply below_alloc | apply pw_below_drewN | apply below_drew1) | exact HB.out)))); have n2_ := Aside0.mk (below_step (by repeat (first | (with_reducible first | exact HB.out | apply below_alloc | apply pw_below_drewN | apply below_drew1) | exact HB.out)) hb); clear HO_4; clear HB; have HO_4 := n0_; have HO119 := n1_; have HB := n2_; clear n0_ n1_ n2_; (try clear hb); (try clear hb2); (try clear hk); (try clear hi); (try clear ho0)) | ((with_reducible refine gate_dst (N := 60) rfl ?_); (try (refine gate_guard (by rfl) ?_; dsimp only)); refine Kd.N_lit (Kd.slice 3 (Kd.int .i64)) _ 22 ?hg (N' := 60) ?hd (xs := ([] : List (List Int))) (inner := []) (ok := (fun k_ => some k_ ≠ (.slice Ao19 x4_1.length co19 : Value).ownBlock ∧ some k_ ≠ (v118 : Value).ownBlock)) (okp := (fun k_ => some k_ ≠ (.slice Ao19 x4_1.length co19 : Value).ownBlock ∧ some k_ ≠ (v118 : Value).ownBlock)) ?hr ?hp (fun _ hk => hk) ((show ∀ k_, w20.heap.size ≤ k_ → (fun k_ => some k_ ≠ (.slice Ao19 x4_1.length co19 : Value).ownBlock ∧ some k_ ≠ (v118 : Value).ownBlock) k_ from fun k_ hk => ⟨Kd.fresh' (Kd.N_lt (by (with_reducible repeat (first | apply Kd.N_alloc | apply Kd.N_drewN | apply Kd.N_drew)); exact HO_4.out)) k_ hk, Kd.fresh' (Kd.R_lt (by (with_reducible repeat (first | apply Kd.R_alloc | apply Kd.R_drewN | apply Kd.R_drew)); exact HO119.out)) k_ hk⟩) _ (Nat.le_refl _)) (Below.refl _ _) (Nat.le_refl _) (by simp) ?_; (case hd => rfl); (case hg => rfl); (case hr => first | (go_simp; done) | (go_simp; rfl)); (case hp => exact (Reps.none _ _)); intro v123 w21 ho22 hb hg_ hnew_; clear hg_ hnew_; (first | rw [← Ny122.out] at ho22 | (simp only [Int.reduceToNat] at ho22; rw [← Ny122.out] at ho22)); have n0_ := Aside0.mk (Kd.N_elder' (by (with_reducible repeat (first | apply Kd.N_alloc | apply Kd.N_drewN | apply Kd.N_drew)); exact HO_4.out) (Kd.N_base ho22) hb); have n1_ := Aside0.mk (Kd.R_below (by (with_reducible repeat (first | apply Kd.R_alloc | apply Kd.R_drewN | apply Kd.R_drew)); exact HO119.out) hb); have n2_ := Aside0.mk (Kd.N_lower ho22 (below_size (by repeat (first | (with_reducible first | exact HB.out | apply below_alloc | apply pw_below_drewN | apply below_drew1) | exact HB.out)))); have n3_ := Aside0.mk (below_step (by repeat (first | (with_reducible first | exact HB.out | apply below_alloc | apply pw_below_drewN | apply below_drew1) | exact HB.out)) hb); clear HO_4; clear HO119; clear HB; have HO_4 := n0_; have HO119 := n1_; have HO124 := n2_; have HB := n3_; clear n0_ n1_ n2_ n3_; clear hb ho22))
     go_loopg [12, 13] k1 (fun kq v12 v13 w' => ∃ (x12_2 : List (List Int)) (x13_2 : Int), v13 = .int .i64 x13_2 ∧ Aside0 (laws_FnCarrySave.l1 kq (wrap64 (1 + (Int.tmod t101 12))) x4_1 x5_1 (wrap64 ((wrap64 (2 * t116)) + 1)) t117 t120 t121 x12_2 x13_2 = some r) ∧ Aside0 (kq ≤ k1) ∧ Aside0 (Kd.N (Kd.slice 3 (Kd.int .i64)) 22 w' w.heap.size (fun k_ => some k_ ≠ (v118 : Value).ownBlock ∧ some k_ ≠ (v12 : Value).ownBlock) (.slice Ao19 x4_1.length co19) x4_1) ∧ Aside0 (Kd.R (Kd.int .i64) 3 w' w.heap.size (fun _ => True) v118 t117) ∧ Aside0 (Kd.N (Kd.slice 3 (Kd.int .i64)) 22 w' w.heap.size (fun k_ => some k_ ≠ ((.slice Ao19 x4_1.length co19) : Value).ownBlock ∧ some k_ ≠ (v118 : Value).ownBlock) v12 x12_2) ∧ Aside0 (Below w.heap.size w w'))
     case atStart => exact ⟨(y122), (wrap64 ((x4_1.length : Int) - 1)), (by first | rfl | (simp; done) | (simp [*]; done)), H', ⟨Nat.le_refl _⟩, ⟨by (with_reducible repeat (first | apply Kd.N_alloc | apply Kd.N_drewN | apply Kd.N_drew)); exact Kd.N_mono HO_4.out (fun _ hk => ⟨hk.1.2, hk.2⟩)⟩, ⟨by (with_reducible repeat (first | apply Kd.R_alloc | apply Kd.R_drewN | apply Kd.R_drew)); exact HO119.out⟩, ⟨by (with_reducible repeat (first | apply Kd.N_alloc | apply Kd.N_drewN | apply Kd.N_drew)); exact HO124.out⟩, ⟨by repeat (first | (with_reducible first | exact HB.out | apply below_alloc | apply pw_below_drewN | apply below_drew1) | exact HB.out)⟩⟩
     case round =>
      clear H'
      try clear c1
      try clear c2
      try clear c2b0
      try clear c2b1
      try clear p2
      try clear c3
      try clear c4
      try clear p6
      try clear c7
      try clear c7b0
      try clear c9
      try clear c10
      try clear p2
      obtain ⟨x12_2, x13_2, rfl, HA, HK2, HO_4, HO_9, HO_12, HB⟩ := hrel
      cases gk with
      | zero => exact absurd HA.out (by simp [laws_FnCarrySave.l1])
      | succ k2 =>
       have H := HA.out
       clear HA
       simp only [laws_FnCarrySave.l1] at H
       by_cases c23 : x13_2 ≥ 0
       ·rw [if_pos c23] at H
        have c23b0 : decide (0 ≤ x13_2) = true := decide_eq_true c23
        clear c23
        by_cases c24 : 0 ≤ x13_2
        ·rw [if_pos c24] at H
         have c24b0 : decide (0 ≤ x13_2) = true := decide_eq_true c24
         clear c24
         by_cases c25 : x13_2 < (x4_1.length : Int)
         ·rw [if_pos c25] at H
          have c25b0 : decide (x13_2 < (x4_1.length : Int)) = true := decide_eq_true c25
          clear c25
          by_cases c26 : x12_2.length < 5864062014805
          ·rw [if_pos c26] at H
           have LMc26 := Aside0.mk c26
           clear c26
           obtain ⟨y126, hy126⟩ : ∃ y_ : List (List Int), y_ = (x12_2 ++ [rd_L2 x4_1 x13_2]) := ⟨_, rfl⟩
           replace H : (laws_FnCarrySave.l1 k2 (wrap64 (1 + (Int.tmod t101 12))) x4_1 x5_1 (wrap64 ((wrap64 (2 * t116)) + 1)) t117 t120 t121 y126 (wrap64 (x13_2 - 1))) = some r := by first | (rw [hy126]; with_reducible exact H) | (have H2_ := (Option.bind_some _ _).symm.trans H; rw [hy126]; with_reducible exact H2_) | (have H2_ := (Option.bind_some _ _).symm.trans H; with_reducible exact H2_) | with_reducible exact H | (rw [hy126]; exact H) | exact H
           have Ny126 := Aside0.mk hy126
           clear hy126
           have H' := Aside0.mk H
           clear H
           have p125 : 0 ≤ (x13_2 : Int) := of_decide_eq_true (by assumption)
           have q125 : x13_2 < (x4_1.length : Int) := of_decide_eq_true (by assumption)
           obtain ⟨ad125, A125_0, c125_0, e125, hx125_0, hl125_0, hi125_0⟩ := at_L2 (Kd.N_reads' HO_4.out).2.2 x13_2 p125 q125
           cases e125
           obtain ⟨ce125, hce125, hMe125, hcc125⟩ := Kd.N_get HO_4.out [] x13_2 p125 (by first | exact q125 | exact of_decide_eq_true (by assumption) | (have e_ := (Kd.N_reads' HO_4.out).1; omega))
           obtain ⟨ua125_0, uc125_0, rfl, ul125_0, ge125_0⟩ := Kd.FK_slice_open hMe125
           have hv125_0 := hcc125 0 _ rfl
           rw [Nat.add_zero, show ((Kd.slice 3 (Kd.int .i64))).sz = 1 from rfl, Nat.mul_one] at hv125_0
           replace hv125_0 := Option.some.inj (hv125_0.symm.trans hx125_0)
           injection hv125_0 with hva_ hvn_ hvc_
           rw [hva_] at ge125_0
           rw [hvc_] at ul125_0
           have HL125_0 := Aside0.mk (show Kd.V (Kd.int .i64) 3 _ w.heap.size _ _ (rd_L2 x4_1 x13_2) from Kd.V_mk ul125_0 ge125_0)
           clear hva_ hvn_ hvc_ ge125_0 ul125_0
           clear hcc125 hce125
           have HR125_0 := Aside0.mk hi125_0
           have HC125_0 := Aside0.mk hl125_0
           clear hi125_0 hl125_0
           replace p125 := eq_true p125
           replace q125 := eq_true q125
           go_wp2_with (first | ((with_reducible refine gate_builtin (b := .append) (xs := #[.tmp 68, .tmp 73]) rfl ?_); (try (refine gate_guard (by rfl) ?_; dsimp only)); at_builtin; refine Kd.N_append (Kd.slice 3 (Kd.int .i64)) (w0 := w) w.heap.size rfl (.tmp 68) (.tmp 73) 37 22 (.slice none 0 0) 24 rfl Try.underlying37 info22 rfl (by decide) (by omega) u12 x12_2 (rd_L2 x4_1 x13_2) [.slice A125_0 (rd_L2 x4_1 x13_2).length c125_0] (fun k_ => some k_ ≠ (.slice (some ad125) x4_1.length co19 : Value).ownBlock ∧ some k_ ≠ (v118 : Value).ownBlock) (fun k_ => ((fun k_ => some k_ ≠ (.slice (some ad125) x4_1.length co19 : Value).ownBlock ∧ some k_ ≠ (v118 : Value).ownBlock)) k_ ∧ some k_ ≠ (u12 : Value).ownBlock) rfl rfl ?aP (fun _ hk => hk) ?aF ?aO ?aB ?aS ?aL ?_; (case aP => exact (Kd.FK_slice_mk (Kd.V_reads' (Kd.V_mono (ok' := (fun k_ => ((fun k_ => some k_ ≠ (.slice (some ad125) x4_1.length co19 : Value).ownBlock ∧ some k_ ≠ (v118 : Value).ownBlock)) k_ ∧ some k_ ≠ (u12 : Value).ownBlock)) (HL125_0.out) (fun k_ hk => ⟨⟨hk.2, hk.1.1⟩, hk.1.2⟩))).2.1 (Kd.V_F (Kd.V_mono (ok' := (fun k_ => ((fun k_ => some k_ ≠ (.slice (some ad125) x4_1.length co19 : Value).ownBlock ∧ some k_ ≠ (v118 : Value).ownBlock)) k_ ∧ some k_ ≠ (u12 : Value).ownBlock)) (HL125_0.out) (fun k_ hk => ⟨⟨hk.2, hk.1.1⟩, hk.1.2⟩))))); (case aB => exact (by repeat (first | (with_reducible first | exact HB.out | apply below_alloc | apply pw_below_drewN | apply below_drew1) | exact HB.out))); (case aF => exact (fun k_ hk => ⟨Kd.fresh' (Kd.N_lt (by (with_reducible repeat (first | apply Kd.N_alloc | apply Kd.N_drewN | apply Kd.N_drew)); exact HO_4.out)) k_ hk, Kd.fresh' (Kd.R_lt (by (with_reducible repeat (first | apply Kd.R_alloc | apply Kd.R_drewN | apply Kd.R_drew)); exact HO_9.out)) k_ hk⟩)); (case aO => exact (by (with_reducible repeat (first | apply Kd.N_alloc | apply Kd.N_drewN | apply Kd.N_drew)); exact HO_12.out)); (case aS => exact (below_size (by repeat (first | (with_reducible first | exact HB.out | apply below_alloc | apply pw_below_drewN | apply below_drew1) | exact HB.out)))); (case aL => have := LMc26.out; omega); intro v127 w27 ho hb hg hat; rw [← Ny126.out] at ho; have n0_ := Aside0.mk (Kd.N_afterv (ok := (fun k_ => some k_ ≠ (v118 : Value).ownBlock)) (by (with_reducible repeat (first | apply Kd.N_alloc | apply Kd.N_drewN | apply Kd.N_drew)); exact HO_4.out) hg hat); have n1_ := Aside0.mk (Kd.R_over' (by (with_reducible repeat (first | apply Kd.R_alloc | apply Kd.R_drewN | apply Kd.R_drew)); exact HO_9.out) (Kd.N_typed (by (with_reducible repeat (first | apply Kd.N_alloc | apply Kd.N_drewN | apply Kd.N_drew)); exact HO_12.out)) (by decide) hg); have n2_ := Aside0.mk (Kd.V_afterv (ok := (fun k_ => some k_ ≠ (.slice (some ad125) x4_1.length co19 : Value).ownBlock ∧ some k_ ≠ (v118 : Value).ownBlock)) (by (with_reducible repeat (first | apply Kd.V_alloc | apply Kd.V_drewN | apply Kd.V_drew)); exact Kd.V_mono HL125_0.out (fun _ hk => ⟨⟨hk.2, hk.1.1⟩, hk.1.2⟩)) hg hat); have n3_ := Aside0.mk (hb); have n4_ := Aside0.mk (ho); clear HO_4; clear HO_9; clear HL125_0; clear HB; clear HO_12; have HO_4 := n0_; have HO_9 := n1_; have HL125_0 := n2_; have HB := n3_; have HO128 := n4_; clear n0_ n1_ n2_ n3_ n4_; clear ho hb hg hat))
           go_roundg k2
           case measure => have := HK1.out; have := HK2.out; omega
           case rel => exact ⟨(y126), (wrap64 (x13_2 - 1)), (by first | rfl | (simp; done) | (simp [*]; done)), H', ⟨by have := HK1.out; have := HK2.out; omega⟩, ⟨by (with_reducible repeat (first | apply Kd.N_alloc | apply Kd.N_drewN | apply Kd.N_drew)); exact HO_4.out⟩, ⟨by (with_reducible repeat (first | apply Kd.R_alloc | apply Kd.R_drewN | apply Kd.R_drew)); exact HO_9.out⟩, ⟨by (with_reducible repeat (first | apply Kd.N_alloc | apply Kd.N_drewN | apply Kd.N_drew)); exact HO128.out⟩, ⟨by repeat (first | (with_reducible first | exact HB.out | apply below_alloc | apply pw_below_drewN | apply below_drew1) | exact HB.out)⟩⟩
          ·rw [if_neg c26] at H
           exact absurd H (by simp)
         ·rw [if_neg c25] at H
          exact absurd H (by simp)
        ·rw [if_neg c24] at H
         exact absurd H (by simp)
       ·rw [if_neg c23] at H
        have c23b0 : decide (0 ≤ x13_2) = false := decide_eq_false c23
        clear c23
        replace H := Option.bind_eq_some_iff.mp H
        obtain ⟨⟨t129, t132, t133⟩, A280, H⟩ := H
        replace H : (if t121 = true then (if t133 = true then ((laws_ints.f k2 t117 t129).bind fun t134 => (if t134 = true then (if (t117.length : Int) = (wrap64 (1 + (Int.tmod t101 12))) then ((impl_ValueOf.f k2 t117).bind fun t135 => (if (wrap64 ((wrap64 (2 * t116)) + 1)) = 0 then (none) else (if (Int.tmod (wrap64 (t135 - x5_1)) (wrap64 ((wrap64 (2 * t116)) + 1))) = 0 then (if t120 < 0 then (laws_FnCarrySave.j2 k2 (wrap64 (1 + (Int.tmod t101 12))) x4_1 (wrap64 ((wrap64 (2 * t116)) + 1)) t120 true) else (laws_FnCarrySave.j2 k2 (wrap64 (1 + (Int.tmod t101 12))) x4_1 (wrap64 ((wrap64 (2 * t116)) + 1)) t120 (decide (t120 > 6)))) else (laws_FnCarrySave.j2 k2 (wrap64 (1 + (Int.tmod t101 12))) x4_1 (wrap64 ((wrap64 (2 * t116)) + 1)) t120 true)))) else (laws_FnCarrySave.j2 k2 (wrap64 (1 + (Int.tmod t101 12))) x4_1 (wrap64 ((wrap64 (2 * t116)) + 1)) t120 true)) else (laws_FnCarrySave.j2 k2 (wrap64 (1 + (Int.tmod t101 12))) x4_1 (wrap64 ((wrap64 (2 * t116)) + 1)) t120 true))) else (laws_FnCarrySave.j2 k2 (wrap64 (1 + (Int.tmod t101 12))) x4_1 (wrap64 ((wrap64 (2 * t116)) + 1)) t120 true)) else (laws_FnCarrySave.j2 k2 (wrap64 (1 + (Int.tmod t101 12))) x4_1 (wrap64 ((wrap64 (2 * t116)) + 1)) t120 true)) = some r := H
        have A28 := Aside0.mk A280
        clear A280
        have HC29 := Aside0.mk H
        clear H
        obtain ⟨Ao30, co30, eo30⟩ := Kd.N_slice HO_12.out
        subst eo30
        go_upto_region 20 with (first | ((with_reducible refine gate_callee (f := 30) rfl ?_); refine goesL_ (some 77) rfl rfl Try.func30 (by kernel_rfl) rfl #[.slice Ao30 x12_2.length co30] rfl (by (try simp only [List.map_toArray, List.map_cons, List.map_nil]); first | done | rfl | (simp only [List.length_drop, List.length_take]; rfl)) ?_; (with_reducible refine (impl_TreeSum.calls k2 (fun k_ => (some k_ ≠ (.slice Ao19 x4_1.length co19 : Value).ownBlock ∧ some k_ ≠ (v118 : Value).ownBlock)) _ _ x12_2 t129 t132 t133 _ ?side1 A28.out).mono ?_); (case side1 => exact Kd.N_V (HO_12.out)); rintro e w31 ⟨v130, rfl, ho0, hb⟩; refine ⟨_, rfl, ?_⟩; have n0_ := Aside0.mk (Kd.N_elder' (by (with_reducible repeat (first | apply Kd.N_alloc | apply Kd.N_drewN | apply Kd.N_drew)); exact HO_4.out) (Kd.R_base ho0) hb); have n1_ := Aside0.mk (Kd.R_elder' (by (with_reducible repeat (first | apply Kd.R_alloc | apply Kd.R_drewN | apply Kd.R_drew)); exact HO_9.out) (Kd.R_base ho0) hb); have n2_ := Aside0.mk (Kd.N_elder' (by (with_reducible repeat (first | apply Kd.N_alloc | apply Kd.N_drewN | apply Kd.N_drew)); exact HO_12.out) (Kd.R_base ho0) hb); have n3_ := Aside0.mk (Kd.R_lower (Kd.R_new' (Kd.R_mono (ok' := fun k_ => True) ho0 (fun _ hk_ => trivial)) (Kd.R_lt (by (with_reducible repeat (first | apply Kd.R_alloc | apply Kd.R_drewN | apply Kd.R_drew)); exact HO_9.out))) (below_size (by repeat (first | (with_reducible first | exact HB.out | apply below_alloc | apply pw_below_drewN | apply below_drew1) | exact HB.out)))); have n4_ := Aside0.mk (below_step (by repeat (first | (with_reducible first | exact HB.out | apply below_alloc | apply pw_below_drewN | apply below_drew1) | exact HB.out)) hb); clear HO_4; clear HO_9; clear HO_12; clear HB; have HO_4 := n0_; have HO_9 := n1_; have HO_12 := n2_; have HO131 := n3_; have HB := n4_; clear n0_ n1_ n2_ n3_ n4_; (try clear hb); (try clear hb2); (try clear hk); (try clear hi); (try clear ho0)))
        (try simp only [Act.put, qa9, qb9, qc9])
        go_cut [115] (fun v115 wc => ∃ (kq : Nat) (x115_28 : Bool), v115 = .bool x115_28 ∧ Aside0 (laws_FnCarrySave.j2 kq (wrap64 (1 + (Int.tmod t101 12))) x4_1 (wrap64 ((wrap64 (2 * t116)) + 1)) t120 x115_28 = some r) ∧ Aside0 (kq ≤ k2) ∧ Aside0 (Kd.N (Kd.slice 3 (Kd.int .i64)) 22 wc w.heap.size (fun _ => True) (.slice Ao19 x4_1.length co19) x4_1) ∧ Aside0 (Below w.heap.size w wc))
        case first =>
         have H := HC29.out
         clear HC29
         by_cases c32 : t121 = true
         ·subst c32
          have H1 : (if t133 = true then ((laws_ints.f k2 t117 t129).bind fun t134 => (if t134 = true then (if (t117.length : Int) = (wrap64 (1 + (Int.tmod t101 12))) then ((impl_ValueOf.f k2 t117).bind fun t135 => (if (wrap64 ((wrap64 (2 * t116)) + 1)) = 0 then (none) else (if (Int.tmod (wrap64 (t135 - x5_1)) (wrap64 ((wrap64 (2 * t116)) + 1))) = 0 then (if t120 < 0 then (laws_FnCarrySave.j2 k2 (wrap64 (1 + (Int.tmod t101 12))) x4_1 (wrap64 ((wrap64 (2 * t116)) + 1)) t120 true) else (laws_FnCarrySave.j2 k2 (wrap64 (1 + (Int.tmod t101 12))) x4_1 (wrap64 ((wrap64 (2 * t116)) + 1)) t120 (decide (t120 > 6)))) else (laws_FnCarrySave.j2 k2 (wrap64 (1 + (Int.tmod t101 12))) x4_1 (wrap64 ((wrap64 (2 * t116)) + 1)) t120 true)))) else (laws_FnCarrySave.j2 k2 (wrap64 (1 + (Int.tmod t101 12))) x4_1 (wrap64 ((wrap64 (2 * t116)) + 1)) t120 true)) else (laws_FnCarrySave.j2 k2 (wrap64 (1 + (Int.tmod t101 12))) x4_1 (wrap64 ((wrap64 (2 * t116)) + 1)) t120 true))) else (laws_FnCarrySave.j2 k2 (wrap64 (1 + (Int.tmod t101 12))) x4_1 (wrap64 ((wrap64 (2 * t116)) + 1)) t120 true)) = some r := by rw [if_pos rfl] at H; exact H
          clear H
          have H := H1
          clear H1
          by_cases c33 : t133 = true
          ·subst c33
           have H1 : ((laws_ints.f k2 t117 t129).bind fun t134 => (if t134 = true then (if (t117.length : Int) = (wrap64 (1 + (Int.tmod t101 12))) then ((impl_ValueOf.f k2 t117).bind fun t135 => (if (wrap64 ((wrap64 (2 * t116)) + 1)) = 0 then (none) else (if (Int.tmod (wrap64 (t135 - x5_1)) (wrap64 ((wrap64 (2 * t116)) + 1))) = 0 then (if t120 < 0 then (laws_FnCarrySave.j2 k2 (wrap64 (1 + (Int.tmod t101 12))) x4_1 (wrap64 ((wrap64 (2 * t116)) + 1)) t120 true) else (laws_FnCarrySave.j2 k2 (wrap64 (1 + (Int.tmod t101 12))) x4_1 (wrap64 ((wrap64 (2 * t116)) + 1)) t120 (decide (t120 > 6)))) else (laws_FnCarrySave.j2 k2 (wrap64 (1 + (Int.tmod t101 12))) x4_1 (wrap64 ((wrap64 (2 * t116)) + 1)) t120 true)))) else (laws_FnCarrySave.j2 k2 (wrap64 (1 + (Int.tmod t101 12))) x4_1 (wrap64 ((wrap64 (2 * t116)) + 1)) t120 true)) else (laws_FnCarrySave.j2 k2 (wrap64 (1 + (Int.tmod t101 12))) x4_1 (wrap64 ((wrap64 (2 * t116)) + 1)) t120 true))) = some r := by rw [if_pos rfl] at H; exact H
           clear H
           have H := H1
           clear H1
           replace H := Option.bind_eq_some_iff.mp H
           obtain ⟨t134, A340, H⟩ := H
           replace H : (if t134 = true then (if (t117.length : Int) = (wrap64 (1 + (Int.tmod t101 12))) then ((impl_ValueOf.f k2 t117).bind fun t135 => (if (wrap64 ((wrap64 (2 * t116)) + 1)) = 0 then (none) else (if (Int.tmod (wrap64 (t135 - x5_1)) (wrap64 ((wrap64 (2 * t116)) + 1))) = 0 then (if t120 < 0 then (laws_FnCarrySave.j2 k2 (wrap64 (1 + (Int.tmod t101 12))) x4_1 (wrap64 ((wrap64 (2 * t116)) + 1)) t120 true) else (laws_FnCarrySave.j2 k2 (wrap64 (1 + (Int.tmod t101 12))) x4_1 (wrap64 ((wrap64 (2 * t116)) + 1)) t120 (decide (t120 > 6)))) else (laws_FnCarrySave.j2 k2 (wrap64 (1 + (Int.tmod t101 12))) x4_1 (wrap64 ((wrap64 (2 * t116)) + 1)) t120 true)))) else (laws_FnCarrySave.j2 k2 (wrap64 (1 + (Int.tmod t101 12))) x4_1 (wrap64 ((wrap64 (2 * t116)) + 1)) t120 true)) else (laws_FnCarrySave.j2 k2 (wrap64 (1 + (Int.tmod t101 12))) x4_1 (wrap64 ((wrap64 (2 * t116)) + 1)) t120 true)) = some r := H
           have A34 := Aside0.mk A340
           clear A340
           by_cases c35 : t134 = true
           ·subst c35
            have H1 : (if (t117.length : Int) = (wrap64 (1 + (Int.tmod t101 12))) then ((impl_ValueOf.f k2 t117).bind fun t135 => (if (wrap64 ((wrap64 (2 * t116)) + 1)) = 0 then (none) else (if (Int.tmod (wrap64 (t135 - x5_1)) (wrap64 ((wrap64 (2 * t116)) + 1))) = 0 then (if t120 < 0 then (laws_FnCarrySave.j2 k2 (wrap64 (1 + (Int.tmod t101 12))) x4_1 (wrap64 ((wrap64 (2 * t116)) + 1)) t120 true) else (laws_FnCarrySave.j2 k2 (wrap64 (1 + (Int.tmod t101 12))) x4_1 (wrap64 ((wrap64 (2 * t116)) + 1)) t120 (decide (t120 > 6)))) else (laws_FnCarrySave.j2 k2 (wrap64 (1 + (Int.tmod t101 12))) x4_1 (wrap64 ((wrap64 (2 * t116)) + 1)) t120 true)))) else (laws_FnCarrySave.j2 k2 (wrap64 (1 + (Int.tmod t101 12))) x4_1 (wrap64 ((wrap64 (2 * t116)) + 1)) t120 true)) = some r := by rw [if_pos rfl] at H; exact H
            clear H
            have H := H1
            clear H1
            by_cases c36 : (t117.length : Int) = (wrap64 (1 + (Int.tmod t101 12)))
            ·rw [if_pos c36] at H
             have c36b0 : ((t117.length : Int) == (wrap64 (1 + (Int.tmod t101 12)))) = true := beq_iff_eq.mpr c36
             have c36b1 : ((t117.length : Int) != (wrap64 (1 + (Int.tmod t101 12)))) = false := bne_eq_false_iff_eq.mpr c36
             clear c36
             (first | rw [c36b0] | (simp only [i64_w, i32_w]; rw [c36b0]) | skip)
             replace H := Option.bind_eq_some_iff.mp H
             obtain ⟨t135, A370, H⟩ := H
             replace H : (if (wrap64 ((wrap64 (2 * t116)) + 1)) = 0 then (none) else (if (Int.tmod (wrap64 (t135 - x5_1)) (wrap64 ((wrap64 (2 * t116)) + 1))) = 0 then (if t120 < 0 then (laws_FnCarrySave.j2 k2 (wrap64 (1 + (Int.tmod t101 12))) x4_1 (wrap64 ((wrap64 (2 * t116)) + 1)) t120 true) else (laws_FnCarrySave.j2 k2 (wrap64 (1 + (Int.tmod t101 12))) x4_1 (wrap64 ((wrap64 (2 * t116)) + 1)) t120 (decide (t120 > 6)))) else (laws_FnCarrySave.j2 k2 (wrap64 (1 + (Int.tmod t101 12))) x4_1 (wrap64 ((wrap64 (2 * t116)) + 1)) t120 true))) = some r := H
             have A37 := Aside0.mk A370
             clear A370
             by_cases c38 : (wrap64 ((wrap64 (2 * t116)) + 1)) = 0
             ·rw [if_pos c38] at H
              exact absurd H (by simp)
             ·rw [if_neg c38] at H
              have c38b0 : ((wrap64 ((wrap64 (2 * t116)) + 1)) == 0) = false := beq_eq_false_iff_ne.mpr c38
              have c38b1 : ((wrap64 ((wrap64 (2 * t116)) + 1)) != 0) = true := bne_iff_ne.mpr c38
              by_cases c39 : (Int.tmod (wrap64 (t135 - x5_1)) (wrap64 ((wrap64 (2 * t116)) + 1))) = 0
              ·rw [if_pos c39] at H
               have c39b0 : ((Int.tmod (wrap64 (t135 - x5_1)) (wrap64 ((wrap64 (2 * t116)) + 1))) == 0) = true := beq_iff_eq.mpr c39
               have c39b1 : ((Int.tmod (wrap64 (t135 - x5_1)) (wrap64 ((wrap64 (2 * t116)) + 1))) != 0) = false := bne_eq_false_iff_eq.mpr c39
               clear c39
               by_cases c40 : t120 < 0
               ·rw [if_pos c40] at H
                have c40b0 : decide (t120 < 0) = true := decide_eq_true c40
                clear c40
                have H' := Aside0.mk H
                clear H
                obtain ⟨Ao41, co41, eo41⟩ := Kd.R_slice HO_9.out
                subst eo41
                obtain ⟨Ao42, co42, eo42⟩ := Kd.R_slice HO131.out
                subst eo42
                go_wp2_with (first | (go_at_call 28; (with_reducible refine (laws_ints.calls k2 _ _ t117 _ _ t129 true _ ?side1 ?side2 ?side3 ?side4 A34.out).mono ?_); (case side1 => repeat (first | exact (Kd.R_reads' HO_9.out).2.2 | (with_reducible refine Kd.C_alloc ?_ _) | (with_reducible refine Kd.C_drewN ?_ _) | (with_reducible refine Kd.C_drew ?_))); (case side2 => exact (Kd.R_reads' HO_9.out).2.1); (case side3 => repeat (first | exact (Kd.R_reads' HO131.out).2.2 | (with_reducible refine Kd.C_alloc ?_ _) | (with_reducible refine Kd.C_drewN ?_ _) | (with_reducible refine Kd.C_drew ?_))); (case side4 => exact (Kd.R_reads' HO131.out).2.1); rintro e w' ⟨rfl, ⟨nd, rfl⟩⟩) | (go_at_call 29; (with_reducible refine (impl_ValueOf.calls k2 _ _ t117 t135 _ ?side1 ?side2 A37.out).mono ?_); (case side1 => repeat (first | exact (Kd.R_reads' HO_9.out).2.2 | (with_reducible refine Kd.C_alloc ?_ _) | (with_reducible refine Kd.C_drewN ?_ _) | (with_reducible refine Kd.C_drew ?_))); (case side2 => exact (Kd.R_reads' HO_9.out).2.1); rintro e w' ⟨rfl, ⟨nd, rfl⟩⟩))
                go_meet
                case rel => exact ⟨_, (true), (by first | rfl | (simp; done) | (simp [*]; done)), H', ⟨by have := HK1.out; have := HK2.out; first | omega | exact Nat.le_refl _⟩, ⟨by (with_reducible repeat (first | apply Kd.N_alloc | apply Kd.N_drewN | apply Kd.N_drew)); exact Kd.N_mono HO_4.out (fun _ hk => trivial)⟩, ⟨by repeat (first | (with_reducible first | exact HB.out | apply below_alloc | apply pw_below_drewN | apply below_drew1) | exact HB.out)⟩⟩
               ·rw [if_neg c40] at H
                have c40b0 : decide (t120 < 0) = false := decide_eq_false c40
                clear c40
                have H' := Aside0.mk H
                clear H
                obtain ⟨Ao43, co43, eo43⟩ := Kd.R_slice HO_9.out
                subst eo43
                obtain ⟨Ao44, co44, eo44⟩ := Kd.R_slice HO131.out
                subst eo44
                go_wp2_with (first | (go_at_call 28; (with_reducible refine (laws_ints.calls k2 _ _ t117 _ _ t129 true _ ?side1 ?side2 ?side3 ?side4 A34.out).mono ?_); (case side1 => repeat (first | exact (Kd.R_reads' HO_9.out).2.2 | (with_reducible refine Kd.C_alloc ?_ _) | (with_reducible refine Kd.C_drewN ?_ _) | (with_reducible refine Kd.C_drew ?_))); (case side2 => exact (Kd.R_reads' HO_9.out).2.1); (case side3 => repeat (first | exact (Kd.R_reads' HO131.out).2.2 | (with_reducible refine Kd.C_alloc ?_ _) | (with_reducible refine Kd.C_drewN ?_ _) | (with_reducible refine Kd.C_drew ?_))); (case side4 => exact (Kd.R_reads' HO131.out).2.1); rintro e w' ⟨rfl, ⟨nd, rfl⟩⟩) | (go_at_call 29; (with_reducible refine (impl_ValueOf.calls k2 _ _ t117 t135 _ ?side1 ?side2 A37.out).mono ?_); (case side1 => repeat (first | exact (Kd.R_reads' HO_9.out).2.2 | (with_reducible refine Kd.C_alloc ?_ _) | (with_reducible refine Kd.C_drewN ?_ _) | (with_reducible refine Kd.C_drew ?_))); (case side2 => exact (Kd.R_reads' HO_9.out).2.1); rintro e w' ⟨rfl, ⟨nd, rfl⟩⟩))
                go_meet
                case rel => exact ⟨_, (decide (t120 > 6)), (by first | rfl | (simp; done) | (simp [*]; done)), H', ⟨by have := HK1.out; have := HK2.out; first | omega | exact Nat.le_refl _⟩, ⟨by (with_reducible repeat (first | apply Kd.N_alloc | apply Kd.N_drewN | apply Kd.N_drew)); exact Kd.N_mono HO_4.out (fun _ hk => trivial)⟩, ⟨by repeat (first | (with_reducible first | exact HB.out | apply below_alloc | apply pw_below_drewN | apply below_drew1) | exact HB.out)⟩⟩
              ·rw [if_neg c39] at H
               have c39b0 : ((Int.tmod (wrap64 (t135 - x5_1)) (wrap64 ((wrap64 (2 * t116)) + 1))) == 0) = false := beq_eq_false_iff_ne.mpr c39
               have c39b1 : ((Int.tmod (wrap64 (t135 - x5_1)) (wrap64 ((wrap64 (2 * t116)) + 1))) != 0) = true := bne_iff_ne.mpr c39
               have H' := Aside0.mk H
               clear H
               obtain ⟨Ao45, co45, eo45⟩ := Kd.R_slice HO_9.out
               subst eo45
               obtain ⟨Ao46, co46, eo46⟩ := Kd.R_slice HO131.out
               subst eo46
               go_wp2_with (first | (go_at_call 28; (with_reducible refine (laws_ints.calls k2 _ _ t117 _ _ t129 true _ ?side1 ?side2 ?side3 ?side4 A34.out).mono ?_); (case side1 => repeat (first | exact (Kd.R_reads' HO_9.out).2.2 | (with_reducible refine Kd.C_alloc ?_ _) | (with_reducible refine Kd.C_drewN ?_ _) | (with_reducible refine Kd.C_drew ?_))); (case side2 => exact (Kd.R_reads' HO_9.out).2.1); (case side3 => repeat (first | exact (Kd.R_reads' HO131.out).2.2 | (with_reducible refine Kd.C_alloc ?_ _) | (with_reducible refine Kd.C_drewN ?_ _) | (with_reducible refine Kd.C_drew ?_))); (case side4 => exact (Kd.R_reads' HO131.out).2.1); rintro e w' ⟨rfl, ⟨nd, rfl⟩⟩) | (go_at_call 29; (with_reducible refine (impl_ValueOf.calls k2 _ _ t117 t135 _ ?side1 ?side2 A37.out).mono ?_); (case side1 => repeat (first | exact (Kd.R_reads' HO_9.out).2.2 | (with_reducible refine Kd.C_alloc ?_ _) | (with_reducible refine Kd.C_drewN ?_ _) | (with_reducible refine Kd.C_drew ?_))); (case side2 => exact (Kd.R_reads' HO_9.out).2.1); rintro e w' ⟨rfl, ⟨nd, rfl⟩⟩))
               go_meet
               case rel => exact ⟨_, (true), (by first | rfl | (simp; done) | (simp [*]; done)), H', ⟨by have := HK1.out; have := HK2.out; first | omega | exact Nat.le_refl _⟩, ⟨by (with_reducible repeat (first | apply Kd.N_alloc | apply Kd.N_drewN | apply Kd.N_drew)); exact Kd.N_mono HO_4.out (fun _ hk => trivial)⟩, ⟨by repeat (first | (with_reducible first | exact HB.out | apply below_alloc | apply pw_below_drewN | apply below_drew1) | exact HB.out)⟩⟩
            ·rw [if_neg c36] at H
             have c36b0 : ((t117.length : Int) == (wrap64 (1 + (Int.tmod t101 12)))) = false := beq_eq_false_iff_ne.mpr c36
             have c36b1 : ((t117.length : Int) != (wrap64 (1 + (Int.tmod t101 12)))) = true := bne_iff_ne.mpr c36
             (first | rw [c36b0] | (simp only [i64_w, i32_w]; rw [c36b0]) | skip)
             have H' := Aside0.mk H
             clear H
             obtain ⟨Ao47, co47, eo47⟩ := Kd.R_slice HO_9.out
             subst eo47
             obtain ⟨Ao48, co48, eo48⟩ := Kd.R_slice HO131.out
             subst eo48
             go_wp2_with (first | (go_at_call 28; (with_reducible refine (laws_ints.calls k2 _ _ t117 _ _ t129 true _ ?side1 ?side2 ?side3 ?side4 A34.out).mono ?_); (case side1 => repeat (first | exact (Kd.R_reads' HO_9.out).2.2 | (with_reducible refine Kd.C_alloc ?_ _) | (with_reducible refine Kd.C_drewN ?_ _) | (with_reducible refine Kd.C_drew ?_))); (case side2 => exact (Kd.R_reads' HO_9.out).2.1); (case side3 => repeat (first | exact (Kd.R_reads' HO131.out).2.2 | (with_reducible refine Kd.C_alloc ?_ _) | (with_reducible refine Kd.C_drewN ?_ _) | (with_reducible refine Kd.C_drew ?_))); (case side4 => exact (Kd.R_reads' HO131.out).2.1); rintro e w' ⟨rfl, ⟨nd, rfl⟩⟩))
             go_meet
             case rel => exact ⟨_, (true), (by first | rfl | (simp; done) | (simp [*]; done)), H', ⟨by have := HK1.out; have := HK2.out; first | omega | exact Nat.le_refl _⟩, ⟨by (with_reducible repeat (first | apply Kd.N_alloc | apply Kd.N_drewN | apply Kd.N_drew)); exact Kd.N_mono HO_4.out (fun _ hk => trivial)⟩, ⟨by repeat (first | (with_reducible first | exact HB.out | apply below_alloc | apply pw_below_drewN | apply below_drew1) | exact HB.out)⟩⟩
           ·replace c35 := Bool.eq_false_iff.mpr c35
            subst c35
            have H1 : (laws_FnCarrySave.j2 k2 (wrap64 (1 + (Int.tmod t101 12))) x4_1 (wrap64 ((wrap64 (2 * t116)) + 1)) t120 true) = some r := by rw [if_neg (show ¬ (false = true) by decide)] at H; exact H
            clear H
            have H := H1
            clear H1
            have H' := Aside0.mk H
            clear H
            obtain ⟨Ao49, co49, eo49⟩ := Kd.R_slice HO_9.out
            subst eo49
            obtain ⟨Ao50, co50, eo50⟩ := Kd.R_slice HO131.out
            subst eo50
            go_wp2_with (first | (go_at_call 28; (with_reducible refine (laws_ints.calls k2 _ _ t117 _ _ t129 false _ ?side1 ?side2 ?side3 ?side4 A34.out).mono ?_); (case side1 => repeat (first | exact (Kd.R_reads' HO_9.out).2.2 | (with_reducible refine Kd.C_alloc ?_ _) | (with_reducible refine Kd.C_drewN ?_ _) | (with_reducible refine Kd.C_drew ?_))); (case side2 => exact (Kd.R_reads' HO_9.out).2.1); (case side3 => repeat (first | exact (Kd.R_reads' HO131.out).2.2 | (with_reducible refine Kd.C_alloc ?_ _) | (with_reducible refine Kd.C_drewN ?_ _) | (with_reducible refine Kd.C_drew ?_))); (case side4 => exact (Kd.R_reads' HO131.out).2.1); rintro e w' ⟨rfl, ⟨nd, rfl⟩⟩))
            go_meet
            case rel => exact ⟨_, (true), (by first | rfl | (simp; done) | (simp [*]; done)), H', ⟨by have := HK1.out; have := HK2.out; first | omega | exact Nat.le_refl _⟩, ⟨by (with_reducible repeat (first | apply Kd.N_alloc | apply Kd.N_drewN | apply Kd.N_drew)); exact Kd.N_mono HO_4.out (fun _ hk => trivial)⟩, ⟨by repeat (first | (with_reducible first | exact HB.out | apply below_alloc | apply pw_below_drewN | apply below_drew1) | exact HB.out)⟩⟩
          ·replace c33 := Bool.eq_false_iff.mpr c33
           subst c33
           have H1 : (laws_FnCarrySave.j2 k2 (wrap64 (1 + (Int.tmod t101 12))) x4_1 (wrap64 ((wrap64 (2 * t116)) + 1)) t120 true) = some r := by rw [if_neg (show ¬ (false = true) by decide)] at H; exact H
           clear H
           have H := H1
           clear H1
           have H' := Aside0.mk H
           clear H
           go_wp2
           go_meet
           case rel => exact ⟨_, (true), (by first | rfl | (simp; done) | (simp [*]; done)), H', ⟨by have := HK1.out; have := HK2.out; first | omega | exact Nat.le_refl _⟩, ⟨by (with_reducible repeat (first | apply Kd.N_alloc | apply Kd.N_drewN | apply Kd.N_drew)); exact Kd.N_mono HO_4.out (fun _ hk => trivial)⟩, ⟨by repeat (first | (with_reducible first | exact HB.out | apply below_alloc | apply pw_below_drewN | apply below_drew1) | exact HB.out)⟩⟩
         ·replace c32 := Bool.eq_false_iff.mpr c32
          subst c32
          have H1 : (laws_FnCarrySave.j2 k2 (wrap64 (1 + (Int.tmod t101 12))) x4_1 (wrap64 ((wrap64 (2 * t116)) + 1)) t120 true) = some r := by rw [if_neg (show ¬ (false = true) by decide)] at H; exact H
          clear H
          have H := H1
          clear H1
          have H' := Aside0.mk H
          clear H
          go_wp2
          go_meet
          case rel => exact ⟨_, (true), (by first | rfl | (simp; done) | (simp [*]; done)), H', ⟨by have := HK1.out; have := HK2.out; first | omega | exact Nat.le_refl _⟩, ⟨by (with_reducible repeat (first | apply Kd.N_alloc | apply Kd.N_drewN | apply Kd.N_drew)); exact Kd.N_mono HO_4.out (fun _ hk => trivial)⟩, ⟨by repeat (first | (with_reducible first | exact HB.out | apply below_alloc | apply pw_below_drewN | apply below_drew1) | exact HB.out)⟩⟩
        case rest =>
         clear HC29
         try clear c1
         try clear p1
         try clear q1
         try clear hx1
         try clear c2
         try clear c2b0
         try clear c2b1
         try clear p2
         try clear c3
         try clear c4
         try clear p6
         try clear c7
         try clear c7b0
         try clear c9
         try clear c10
         try clear c12
         try clear p12
         try clear q12
         try clear hx12
         try clear c23
         try clear c23b0
         try clear c24
         try clear c24b0
         try clear c25
         try clear c25b0
         try clear c26
         try clear c29
         try clear c30
         try clear c32
         try clear c33
         try clear c35
         try clear c36
         try clear c36b0
         try clear c36b1
         try clear c37
         try clear c38
         try clear c38b0
         try clear c38b1
         try clear c39
         try clear c39b0
         try clear c39b1
         try clear c40
         try clear c40b0
         try clear hx125_0
         try clear p125
         try clear p2
         try clear p6
         try clear q125
         obtain ⟨kq, x115_28, rfl, HA, HJ28, HO_4, HB⟩ := hcut
         cases kq with
         | zero => exact absurd HA.out (by simp [laws_FnCarrySave.j2])
         | succ kj28 =>
          have H := HA.out
          clear HA
          simp only [laws_FnCarrySave.j2] at H
          by_cases c51 : x115_28 = true
          ·subst c51
           have H1 : (some false) = some r := by rw [if_pos rfl] at H; exact H
           clear H
           have H := H1
           clear H1
           obtain rfl := Option.some.inj H
           go_wp2
           go_ret
           exact ⟨by first | rfl | (simp [errW_none, errW_some] <;> rfl) | (simp [*, errW_none, errW_some] <;> rfl), by repeat (first | (with_reducible first | exact HB.out | apply below_alloc | apply pw_below_drewN | apply below_drew1) | exact HB.out)⟩
          ·replace c51 := Bool.eq_false_iff.mpr c51
           subst c51
           have H1 : (if (x4_1.length : Int) < 3 then (some (t120 == 0)) else (if 0 < (x4_1.length : Int) then (if 1 < (x4_1.length : Int) then (if 2 < (x4_1.length : Int) then ((impl_CarrySave.f kj28 (rd_L2 x4_1 0) (rd_L2 x4_1 1) (rd_L2 x4_1 2)).bind fun bt139 => (if bt139.2.2 = true then (if (bt139.1.length : Int) = (wrap64 (1 + (Int.tmod t101 12))) then (if (bt139.2.1.length : Int) = (wrap64 (1 + (Int.tmod t101 12))) then (if 0 < (bt139.2.1.length : Int) then (if (rd bt139.2.1 0) = 0 then ((impl_ValueOf.f kj28 bt139.1).bind fun t147 => ((impl_ValueOf.f kj28 bt139.2.1).bind fun t148 => ((impl_ValueOf.f kj28 (rd_L2 x4_1 0)).bind fun t150 => ((impl_ValueOf.f kj28 (rd_L2 x4_1 1)).bind fun t152 => ((impl_ValueOf.f kj28 (rd_L2 x4_1 2)).bind fun t154 => (if (wrap64 ((wrap64 (2 * t116)) + 1)) = 0 then (none) else (some ((Int.tmod (wrap64 ((wrap64 ((wrap64 ((wrap64 (t147 + t148)) - t150)) - t152)) - t154)) (wrap64 ((wrap64 (2 * t116)) + 1))) == 0)))))))) else (some false)) else (none)) else (some false)) else (some false)) else (some false))) else (none)) else (none)) else (none))) = some r := by rw [if_neg (show ¬ (false = true) by decide)] at H; exact H
           clear H
           have H := H1
           clear H1
           by_cases c52 : (x4_1.length : Int) < 3
           ·rw [if_pos c52] at H
            have c52b0 : decide ((x4_1.length : Int) < 3) = true := decide_eq_true c52
            have c52b1 : decide (x4_1.length < 3) = true := decide_eq_true (by omega)
            clear c52
            obtain rfl := Option.some.inj H
            go_wp2
            go_ret
            exact ⟨by first | rfl | (simp [errW_none, errW_some] <;> rfl) | (simp [*, errW_none, errW_some] <;> rfl), by repeat (first | (with_reducible first | exact HB.out | apply below_alloc | apply pw_below_drewN | apply below_drew1) | exact HB.out)⟩
           ·rw [if_neg c52] at H
            have c52b0 : decide ((x4_1.length : Int) < 3) = false := decide_eq_false c52
            have c52b1 : decide (x4_1.length < 3) = false := decide_eq_false (by omega)
            clear c52
            by_cases c53 : 0 < (x4_1.length : Int)
            ·rw [if_pos c53] at H
             have c53b0 : decide (0 < (x4_1.length : Int)) = true := decide_eq_true c53
             have c53b1 : decide (0 < x4_1.length) = true := decide_eq_true (by omega)
             clear c53
             by_cases c54 : 1 < (x4_1.length : Int)
             ·rw [if_pos c54] at H
              have c54b0 : decide (1 < (x4_1.length : Int)) = true := decide_eq_true c54
              have c54b1 : decide (1 < x4_1.length) = true := decide_eq_true (by omega)
              clear c54
              by_cases c55 : 2 < (x4_1.length : Int)
              ·rw [if_pos c55] at H
               have c55b0 : decide (2 < (x4_1.length : Int)) = true := decide_eq_true c55
               have c55b1 : decide (2 < x4_1.length) = true := decide_eq_true (by omega)
               clear c55
               replace H := Option.bind_eq_some_iff.mp H
               obtain ⟨⟨t139, t142, t145⟩, A560, H⟩ := H
               replace H : (if t145 = true then (if (t139.length : Int) = (wrap64 (1 + (Int.tmod t101 12))) then (if (t142.length : Int) = (wrap64 (1 + (Int.tmod t101 12))) then (if 0 < (t142.length : Int) then (if (rd t142 0) = 0 then ((impl_ValueOf.f kj28 t139).bind fun t147 => ((impl_ValueOf.f kj28 t142).bind fun t148 => ((impl_ValueOf.f kj28 (rd_L2 x4_1 0)).bind fun t150 => ((impl_ValueOf.f kj28 (rd_L2 x4_1 1)).bind fun t152 => ((impl_ValueOf.f kj28 (rd_L2 x4_1 2)).bind fun t154 => (if (wrap64 ((wrap64 (2 * t116)) + 1)) = 0 then (none) else (some ((Int.tmod (wrap64 ((wrap64 ((wrap64 ((wrap64 (t147 + t148)) - t150)) - t152)) - t154)) (wrap64 ((wrap64 (2 * t116)) + 1))) == 0)))))))) else (some false)) else (none)) else (some false)) else (some false)) else (some false)) = some r := H
               have A56 := Aside0.mk A560
               clear A560
               by_cases c57 : t145 = true
               ·subst c57
                have H1 : (if (t139.length : Int) = (wrap64 (1 + (Int.tmod t101 12))) then (if (t142.length : Int) = (wrap64 (1 + (Int.tmod t101 12))) then (if 0 < (t142.length : Int) then (if (rd t142 0) = 0 then ((impl_ValueOf.f kj28 t139).bind fun t147 => ((impl_ValueOf.f kj28 t142).bind fun t148 => ((impl_ValueOf.f kj28 (rd_L2 x4_1 0)).bind fun t150 => ((impl_ValueOf.f kj28 (rd_L2 x4_1 1)).bind fun t152 => ((impl_ValueOf.f kj28 (rd_L2 x4_1 2)).bind fun t154 => (if (wrap64 ((wrap64 (2 * t116)) + 1)) = 0 then (none) else (some ((Int.tmod (wrap64 ((wrap64 ((wrap64 ((wrap64 (t147 + t148)) - t150)) - t152)) - t154)) (wrap64 ((wrap64 (2 * t116)) + 1))) == 0)))))))) else (some false)) else (none)) else (some false)) else (some false)) = some r := by rw [if_pos rfl] at H; exact H
                clear H
                have H := H1
                clear H1
                by_cases c58 : (t139.length : Int) = (wrap64 (1 + (Int.tmod t101 12)))
                ·rw [if_pos c58] at H
                 have c58b0 : ((t139.length : Int) == (wrap64 (1 + (Int.tmod t101 12)))) = true := beq_iff_eq.mpr c58
                 have c58b1 : ((t139.length : Int) != (wrap64 (1 + (Int.tmod t101 12)))) = false := bne_eq_false_iff_eq.mpr c58
                 clear c58
                 by_cases c59 : (t142.length : Int) = (wrap64 (1 + (Int.tmod t101 12)))
                 ·rw [if_pos c59] at H
                  have c59b0 : ((t142.length : Int) == (wrap64 (1 + (Int.tmod t101 12)))) = true := beq_iff_eq.mpr c59
                  have c59b1 : ((t142.length : Int) != (wrap64 (1 + (Int.tmod t101 12)))) = false := bne_eq_false_iff_eq.mpr c59
                  clear c59
                  by_cases c60 : 0 < (t142.length : Int)
                  ·rw [if_pos c60] at H
                   have c60b0 : decide (0 < (t142.length : Int)) = true := decide_eq_true c60
                   have c60b1 : decide (0 < t142.length) = true := decide_eq_true (by omega)
                   clear c60
                   by_cases c61 : (rd t142 0) = 0
                   ·rw [if_pos c61] at H
                    have c61b0 : ((rd t142 0) == 0) = true := beq_iff_eq.mpr c61
                    have c61b1 : ((rd t142 0) != 0) = false := bne_eq_false_iff_eq.mpr c61
                    clear c61
                    replace H := Option.bind_eq_some_iff.mp H
                    obtain ⟨t147, A620, H⟩ := H
                    replace H : ((impl_ValueOf.f kj28 t142).bind fun t148 => ((impl_ValueOf.f kj28 (rd_L2 x4_1 0)).bind fun t150 => ((impl_ValueOf.f kj28 (rd_L2 x4_1 1)).bind fun t152 => ((impl_ValueOf.f kj28 (rd_L2 x4_1 2)).bind fun t154 => (if (wrap64 ((wrap64 (2 * t116)) + 1)) = 0 then (none) else (some ((Int.tmod (wrap64 ((wrap64 ((wrap64 ((wrap64 (t147 + t148)) - t150)) - t152)) - t154)) (wrap64 ((wrap64 (2 * t116)) + 1))) == 0))))))) = some r := H
                    have A62 := Aside0.mk A620
                    clear A620
                    replace H := Option.bind_eq_some_iff.mp H
                    obtain ⟨t148, A630, H⟩ := H
                    replace H : ((impl_ValueOf.f kj28 (rd_L2 x4_1 0)).bind fun t150 => ((impl_ValueOf.f kj28 (rd_L2 x4_1 1)).bind fun t152 => ((impl_ValueOf.f kj28 (rd_L2 x4_1 2)).bind fun t154 => (if (wrap64 ((wrap64 (2 * t116)) + 1)) = 0 then (none) else (some ((Int.tmod (wrap64 ((wrap64 ((wrap64 ((wrap64 (t147 + t148)) - t150)) - t152)) - t154)) (wrap64 ((wrap64 (2 * t116)) + 1))) == 0)))))) = some r := H
                    have A63 := Aside0.mk A630
                    clear A630
                    replace H := Option.bind_eq_some_iff.mp H
                    obtain ⟨t150, A640, H⟩ := H
                    replace H : ((impl_ValueOf.f kj28 (rd_L2 x4_1 1)).bind fun t152 => ((impl_ValueOf.f kj28 (rd_L2 x4_1 2)).bind fun t154 => (if (wrap64 ((wrap64 (2 * t116)) + 1)) = 0 then (none) else (some ((Int.tmod (wrap64 ((wrap64 ((wrap64 ((wrap64 (t147 + t148)) - t150)) - t152)) - t154)) (wrap64 ((wrap64 (2 * t116)) + 1))) == 0))))) = some r := H
                    have A64 := Aside0.mk A640
                    clear A640
                    replace H := Option.bind_eq_some_iff.mp H
                    obtain ⟨t152, A650, H⟩ := H
                    replace H : ((impl_ValueOf.f kj28 (rd_L2 x4_1 2)).bind fun t154 => (if (wrap64 ((wrap64 (2 * t116)) + 1)) = 0 then (none) else (some ((Int.tmod (wrap64 ((wrap64 ((wrap64 ((wrap64 (t147 + t148)) - t150)) - t152)) - t154)) (wrap64 ((wrap64 (2 * t116)) + 1))) == 0)))) = some r := H
                    have A65 := Aside0.mk A650
                    clear A650
                    replace H := Option.bind_eq_some_iff.mp H
                    obtain ⟨t154, A660, H⟩ := H
                    replace H : (if (wrap64 ((wrap64 (2 * t116)) + 1)) = 0 then (none) else (some ((Int.tmod (wrap64 ((wrap64 ((wrap64 ((wrap64 (t147 + t148)) - t150)) - t152)) - t154)) (wrap64 ((wrap64 (2 * t116)) + 1))) == 0))) = some r := H
                    have A66 := Aside0.mk A660
                    clear A660
                    by_cases c67 : (wrap64 ((wrap64 (2 * t116)) + 1)) = 0
                    ·rw [if_pos c67] at H
                     exact absurd H (by simp)
                    ·rw [if_neg c67] at H
                     have c67b0 : ((wrap64 ((wrap64 (2 * t116)) + 1)) == 0) = false := beq_eq_false_iff_ne.mpr c67
                     have c67b1 : ((wrap64 ((wrap64 (2 * t116)) + 1)) != 0) = true := bne_iff_ne.mpr c67
                     obtain rfl := Option.some.inj H
                     try go_wp2
                     have n0_ := Aside0.mk (Kd.N_drew HO_4.out)
                     have n1_ := Aside0.mk (below_drew1 HB.out)
                     clear HO_4; clear HB
                     have HO_4 := n0_
                     have HB := n1_
                     clear n0_ n1_
                     have p136 : 0 ≤ (0 : Int) := (by omega)
                     have q136 : 0 < (x4_1.length : Int) := of_decide_eq_true (by assumption)
                     obtain ⟨ad136, A136_0, c136_0, e136, hx136_0, hl136_0, hi136_0⟩ := at_L2 (Kd.N_reads' HO_4.out).2.2 0 p136 q136
                     cases e136
                     obtain ⟨ce136, hce136, hMe136, hcc136⟩ := Kd.N_get HO_4.out [] 0 p136 (by first | exact q136 | exact of_decide_eq_true (by assumption) | (have e_ := (Kd.N_reads' HO_4.out).1; omega))
                     obtain ⟨ua136_0, uc136_0, rfl, ul136_0, ge136_0⟩ := Kd.FK_slice_open hMe136
                     have hv136_0 := hcc136 0 _ rfl
                     rw [Nat.add_zero, show ((Kd.slice 3 (Kd.int .i64))).sz = 1 from rfl, Nat.mul_one] at hv136_0
                     replace hv136_0 := Option.some.inj (hv136_0.symm.trans hx136_0)
                     injection hv136_0 with hva_ hvn_ hvc_
                     rw [hva_] at ge136_0
                     rw [hvc_] at ul136_0
                     have HL136_0 := Aside0.mk (show Kd.V (Kd.int .i64) 3 _ w.heap.size _ _ (rd_L2 x4_1 0) from Kd.V_mk ul136_0 ge136_0)
                     clear hva_ hvn_ hvc_ ge136_0 ul136_0
                     clear hcc136 hce136
                     have qi136 : (0 < x4_1.length) = True := eq_true (by omega)
                     (try rw [show ((0 : Int)).toNat = 0 from rfl] at hx136_0)
                     (try rw [Addr.add_zero'] at hx136_0)
                     have HR136_0 := Aside0.mk hi136_0
                     have HC136_0 := Aside0.mk hl136_0
                     clear hi136_0 hl136_0
                     replace p136 := eq_true p136
                     replace q136 := eq_true q136
                     have p137 : 0 ≤ (1 : Int) := (by omega)
                     have q137 : 1 < (x4_1.length : Int) := of_decide_eq_true (by assumption)
                     obtain ⟨ad137, A137_0, c137_0, e137, hx137_0, hl137_0, hi137_0⟩ := at_L2 (Kd.N_reads' HO_4.out).2.2 1 p137 q137
                     obtain rfl : ad136 = ad137 := (by injection e137)
                     obtain ⟨ce137, hce137, hMe137, hcc137⟩ := Kd.N_get HO_4.out [] 1 p137 (by first | exact q137 | exact of_decide_eq_true (by assumption) | (have e_ := (Kd.N_reads' HO_4.out).1; omega))
                     obtain ⟨ua137_0, uc137_0, rfl, ul137_0, ge137_0⟩ := Kd.FK_slice_open hMe137
                     have hv137_0 := hcc137 0 _ rfl
                     rw [Nat.add_zero, show ((Kd.slice 3 (Kd.int .i64))).sz = 1 from rfl, Nat.mul_one] at hv137_0
                     replace hv137_0 := Option.some.inj (hv137_0.symm.trans hx137_0)
                     injection hv137_0 with hva_ hvn_ hvc_
                     rw [hva_] at ge137_0
                     rw [hvc_] at ul137_0
                     have HL137_0 := Aside0.mk (show Kd.V (Kd.int .i64) 3 _ w.heap.size _ _ (rd_L2 x4_1 1) from Kd.V_mk ul137_0 ge137_0)
                     clear hva_ hvn_ hvc_ ge137_0 ul137_0
                     clear hcc137 hce137
                     (try simp only [show (1 : Int).toNat = 1 from rfl, Nat.reduceMul, Nat.reduceEqDiff, Go.Addr.add, ↓reduceIte] at hx137_0)
                     have qi137 : (1 < x4_1.length) = True := eq_true (by omega)
                     (try rw [show ((1 : Int)).toNat = 1 from rfl] at hx137_0)
                     have HR137_0 := Aside0.mk hi137_0
                     have HC137_0 := Aside0.mk hl137_0
                     clear hi137_0 hl137_0
                     replace p137 := eq_true p137
                     replace q137 := eq_true q137
                     have p138 : 0 ≤ (2 : Int) := (by omega)
                     have q138 : 2 < (x4_1.length : Int) := of_decide_eq_true (by assumption)
                     obtain ⟨ad138, A138_0, c138_0, e138, hx138_0, hl138_0, hi138_0⟩ := at_L2 (Kd.N_reads' HO_4.out).2.2 2 p138 q138
                     obtain rfl : ad136 = ad138 := (by injection e138)
                     obtain ⟨ce138, hce138, hMe138, hcc138⟩ := Kd.N_get HO_4.out [] 2 p138 (by first | exact q138 | exact of_decide_eq_true (by assumption) | (have e_ := (Kd.N_reads' HO_4.out).1; omega))
                     obtain ⟨ua138_0, uc138_0, rfl, ul138_0, ge138_0⟩ := Kd.FK_slice_open hMe138
                     have hv138_0 := hcc138 0 _ rfl
                     rw [Nat.add_zero, show ((Kd.slice 3 (Kd.int .i64))).sz = 1 from rfl, Nat.mul_one] at hv138_0
                     replace hv138_0 := Option.some.inj (hv138_0.symm.trans hx138_0)
                     injection hv138_0 with hva_ hvn_ hvc_
                     rw [hva_] at ge138_0
                     rw [hvc_] at ul138_0
                     have HL138_0 := Aside0.mk (show Kd.V (Kd.int .i64) 3 _ w.heap.size _ _ (rd_L2 x4_1 2) from Kd.V_mk ul138_0 ge138_0)
                     clear hva_ hvn_ hvc_ ge138_0 ul138_0
                     clear hcc138 hce138
                     (try simp only [show (2 : Int).toNat = 2 from rfl, Nat.reduceMul, Nat.reduceEqDiff, Go.Addr.add, ↓reduceIte] at hx138_0)
                     have qi138 : (2 < x4_1.length) = True := eq_true (by omega)
                     (try rw [show ((2 : Int)).toNat = 2 from rfl] at hx138_0)
                     have HR138_0 := Aside0.mk hi138_0
                     have HC138_0 := Aside0.mk hl138_0
                     clear hi138_0 hl138_0
                     replace p138 := eq_true p138
                     replace q138 := eq_true q138
                     refine start_ (n := 17) (S := fun w' => w'.cell? ad136 = some (.slice A136_0 (rd_L2 x4_1 0).length c136_0) ∧ w'.cell? ⟨ad136.block, ad136.off + 1, none⟩ = some (.slice A137_0 (rd_L2 x4_1 1).length c137_0) ∧ w'.cell? ⟨ad136.block, ad136.off + 2, none⟩ = some (.slice A138_0 (rd_L2 x4_1 2).length c138_0)) (ds := []) q9_0 (by kernel_rfl) rfl rfl ⟨hx136_0, hx137_0, hx138_0⟩ (fun hHeld => ?_); refine with_tabW laws_FnCarrySave.tab24 laws_FnCarrySave.bits24 (fun HT_ HW_ => ?_)
                     generalize wc.drew = w68 at HO_4 HB HL136_0 HL137_0 HL138_0 HR136_0 HR137_0 HR138_0 hx136_0 hx137_0 hx138_0 hHeld ⊢
                     refine pure_ (i := 0) (N := some 122) (v := ?_) (a' := ?_) q9_1 rfl rfl (any_of HT_.out (by kernel_rfl)) (fun _ _ _ h => h) (Or.inl ⟨by rfl, ?_⟩) ?_ ?_; rotate_left
                     ·intro w'
                      go_simp; with_reducible rfl
                     rotate_left
                     ·simp only [Act.put, qa9, qb9, qc9, i64_w, i32_w]
                      rfl
                     refine pure_ (i := 1) (N := some 123) (v := ?_) (a' := ?_) q9_2 rfl rfl (any_of HT_.out (by kernel_rfl)) (fun _ _ _ h => h) (Or.inl ⟨by rfl, ?_⟩) ?_ ?_; rotate_left
                     ·intro w'
                      go_simp; with_reducible rfl
                     rotate_left
                     ·simp only [Act.put, qa9, qb9, qc9, i64_w, i32_w]
                      rfl
                     refine pure_ (i := 3) (N := some 125) (v := ?_) (a' := ?_) q9_3 rfl rfl (any_of HT_.out (by kernel_rfl)) (fun _ _ _ h => h) (Or.inl ⟨by rfl, ?_⟩) ?_ ?_; rotate_left
                     ·intro w'
                      go_simp; with_reducible rfl
                     rotate_left
                     ·simp only [Act.put, qa9, qb9, qc9, i64_w, i32_w]
                      rfl
                     refine pure_ (i := 4) (N := some 126) (v := ?_) (a' := ?_) q9_4 rfl rfl (any_of HT_.out (by kernel_rfl)) (fun _ _ _ h => h) (Or.inl ⟨by rfl, ?_⟩) ?_ ?_; rotate_left
                     ·intro w'
                      go_simp; with_reducible rfl
                     rotate_left
                     ·simp only [Act.put, qa9, qb9, qc9, i64_w, i32_w]
                      rfl
                     refine pure_ (i := 6) (N := some 128) (v := ?_) (a' := ?_) q9_5 rfl rfl (any_of HT_.out (by kernel_rfl)) (fun _ _ _ h => h) (Or.inl ⟨by rfl, ?_⟩) ?_ ?_; rotate_left
                     ·intro w'
                      go_simp; with_reducible rfl
                     rotate_left
                     ·simp only [Act.put, qa9, qb9, qc9, i64_w, i32_w]
                      rfl
                     refine pure_ (i := 7) (N := some 129) (v := ?_) (a' := ?_) q9_6 rfl rfl (any_of HT_.out (by kernel_rfl)) (fun _ _ _ h => h) (Or.inl ⟨by rfl, ?_⟩) ?_ ?_; rotate_left
                     ·intro w'
                      go_simp; with_reducible rfl
                     rotate_left
                     ·simp only [Act.put, qa9, qb9, qc9, i64_w, i32_w]
                      rfl
                     refine take_ (i := 2) (N := some 124) (v := ?_) (a' := ?_) q9_7 rfl rfl (take_ofW HT_.out HW_.out (by kernel_rfl)) (fun _ _ _ h => h) (Or.inl ⟨by rfl, ?_⟩) hHeld ?_ ?_; rotate_left
                     ·rintro w' ⟨s0, s1, s2⟩
                      go_simp; with_reducible rfl
                     rotate_left
                     ·simp only [Act.put, qa9, qb9, qc9, i64_w, i32_w]
                      rfl
                     refine take_ (i := 5) (N := some 127) (v := ?_) (a' := ?_) q9_8 rfl rfl (take_ofW HT_.out HW_.out (by kernel_rfl)) (fun _ _ _ h => h) (Or.inl ⟨by rfl, ?_⟩) hHeld ?_ ?_; rotate_left
                     ·rintro w' ⟨s0, s1, s2⟩
                      go_simp; with_reducible rfl
                     rotate_left
                     ·simp only [Act.put, qa9, qb9, qc9, i64_w, i32_w]
                      rfl
                     refine take_ (i := 8) (N := some 130) (v := ?_) (a' := ?_) q9_9 rfl rfl (take_ofW HT_.out HW_.out (by kernel_rfl)) (fun _ _ _ h => h) (Or.inl ⟨by rfl, ?_⟩) hHeld ?_ ?_; rotate_left
                     ·rintro w' ⟨s0, s1, s2⟩
                      go_simp; with_reducible rfl
                     rotate_left
                     ·simp only [Act.put, qa9, qb9, qc9, i64_w, i32_w]
                      rfl
                     refine one_ (i := 9) (N := some 131) q9_10 rfl rfl (one_of HT_.out (by kernel_rfl)) (by decide) (fun K hK => ?_)
                     refine goes_ Try.func43 (by kernel_rfl) rfl #[.slice A136_0 (rd_L2 x4_1 0).length c136_0, .slice A137_0 (rd_L2 x4_1 1).length c137_0, .slice A138_0 (rd_L2 x4_1 2).length c138_0] (by rfl) rfl rfl (by (try simp only [List.map_toArray, List.map_cons, List.map_nil]); first | done | rfl | (simp only [List.length_drop, List.length_take]; rfl)) ?_
                     with_reducible refine (impl_CarrySave.calls kj28 (fun k_ => (True ∧ some k_ ≠ (.slice (some ad136) x4_1.length co19 : Value).ownBlock)) _ _ (rd_L2 x4_1 0) (fun k_ => (True ∧ some k_ ≠ (.slice (some ad136) x4_1.length co19 : Value).ownBlock)) _ _ (rd_L2 x4_1 1) (fun k_ => (True ∧ some k_ ≠ (.slice (some ad136) x4_1.length co19 : Value).ownBlock)) _ _ (rd_L2 x4_1 2) t139 t142 true _ ?side1 ?side2 ?side3 A56.out).mono ?_
                     (case side1 => exact HL136_0.out)
                     (case side2 => exact HL137_0.out)
                     (case side3 => exact HL138_0.out)
                     rintro e w69 ⟨v140, v143, rfl, ho0, ho1, hb⟩
                     have HS0_ := (hb.cell (World.block_lt_of_cell? _ _ (hHeld.1))).trans (hHeld.1)
                     have HS1_ := (hb.cell (World.block_lt_of_cell? _ _ (hHeld.2.1))).trans (hHeld.2.1)
                     have HS2_ := (hb.cell (World.block_lt_of_cell? _ _ (hHeld.2.2))).trans (hHeld.2.2)
                     refine ⟨_, rfl, ?_⟩
                     have n0_ := Aside0.mk (Kd.N_mono (Kd.N_told (Kd.N_told (Kd.N_old (by (with_reducible repeat (first | apply Kd.N_alloc | apply Kd.N_drewN | apply Kd.N_drew)); exact HO_4.out) hb) (Kd.R_base ho0)) (Kd.R_base ho1)) (fun _ h_ => h_.1))
                     have n1_ := Aside0.mk (Kd.V_mono (Kd.V_told (Kd.V_told (Kd.V_old (by (with_reducible repeat (first | apply Kd.V_alloc | apply Kd.V_drewN | apply Kd.V_drew)); exact HL136_0.out) hb) (Kd.R_base ho0)) (Kd.R_base ho1)) (fun _ h_ => h_.1))
                     have n2_ := Aside0.mk (Kd.V_mono (Kd.V_told (Kd.V_told (Kd.V_old (by (with_reducible repeat (first | apply Kd.V_alloc | apply Kd.V_drewN | apply Kd.V_drew)); exact HL137_0.out) hb) (Kd.R_base ho0)) (Kd.R_base ho1)) (fun _ h_ => h_.1))
                     have n3_ := Aside0.mk (Kd.V_mono (Kd.V_told (Kd.V_told (Kd.V_old (by (with_reducible repeat (first | apply Kd.V_alloc | apply Kd.V_drewN | apply Kd.V_drew)); exact HL138_0.out) hb) (Kd.R_base ho0)) (Kd.R_base ho1)) (fun _ h_ => h_.1))
                     have n4_ := Aside0.mk (Kd.R_lower (Kd.R_mono (ok' := fun k_ => some k_ ≠ (v143 : Value).ownBlock) ho0 (fun _ hk_ => hk_.2)) (below_size (by repeat (first | (with_reducible first | exact HB.out | apply below_alloc | apply pw_below_drewN | apply below_drew1) | exact HB.out))))
                     have n5_ := Aside0.mk (Kd.R_lower (Kd.R_mono (ok' := fun k_ => some k_ ≠ (v140 : Value).ownBlock) ho1 (fun _ hk_ => hk_.2)) (below_size (by repeat (first | (with_reducible first | exact HB.out | apply below_alloc | apply pw_below_drewN | apply below_drew1) | exact HB.out))))
                     have n6_ := Aside0.mk (Kd.C_below (by repeat (first | (with_reducible exact HR136_0.out) | (with_reducible refine Kd.C_alloc ?_ _) | (with_reducible refine Kd.C_drewN ?_ _) | (with_reducible refine Kd.C_drew ?_) | exact HR136_0.out)) hb)
                     have n7_ := Aside0.mk (Kd.C_below (by repeat (first | (with_reducible exact HR137_0.out) | (with_reducible refine Kd.C_alloc ?_ _) | (with_reducible refine Kd.C_drewN ?_ _) | (with_reducible refine Kd.C_drew ?_) | exact HR137_0.out)) hb)
                     have n8_ := Aside0.mk (Kd.C_below (by repeat (first | (with_reducible exact HR138_0.out) | (with_reducible refine Kd.C_alloc ?_ _) | (with_reducible refine Kd.C_drewN ?_ _) | (with_reducible refine Kd.C_drew ?_) | exact HR138_0.out)) hb)
                     have n9_ := Aside0.mk (below_step (by repeat (first | (with_reducible first | exact HB.out | apply below_alloc | apply pw_below_drewN | apply below_drew1) | exact HB.out)) hb)
                     clear HO_4; clear HL136_0; clear HL137_0; clear HL138_0; clear HR136_0; clear HR137_0; clear HR138_0; clear HB
                     have HO_4 := n0_
                     have HL136_0 := n1_
                     have HL137_0 := n2_
                     have HL138_0 := n3_
                     have HO141 := n4_
                     have HO144 := n5_
                     have HR136_0 := n6_
                     have HR137_0 := n7_
                     have HR138_0 := n8_
                     have HB := n9_
                     clear n0_ n1_ n2_ n3_ n4_ n5_ n6_ n7_ n8_ n9_
                     (try clear hb)
                     (try clear hb2)
                     (try clear hk)
                     (try clear hi)
                     (try clear ho0)
                     (try clear ho1)
                     refine hK.out _ _ ⟨HS0_, HS1_, HS2_⟩ (fun hHeld => ?_)
                     clear hK K
                     refine norm_ (a' := ?_) ?_ ?_; rotate_left
                     ·show Act.put _ (some 131) _ = _
                      simp only [Act.put, qa9, qb9, qc9, i64_w, i32_w]
                      rfl
                     refine pure_ (i := 10) (N := some 121) (v := ?_) (a' := ?_) q9_11 rfl rfl (any_of HT_.out (by kernel_rfl)) (fun _ _ _ h => h) (Or.inl ⟨by rfl, ?_⟩) ?_ ?_; rotate_left
                     ·intro w'
                      go_simp; with_reducible rfl
                     rotate_left
                     ·simp only [Act.put, qa9, qb9, qc9, i64_w, i32_w]
                      rfl
                     refine pure_ (i := 11) (N := some 132) (v := ?_) (a' := ?_) q9_12 rfl rfl (any_of HT_.out (by kernel_rfl)) (fun _ _ _ h => h) (Or.inl ⟨by rfl, ?_⟩) ?_ ?_; rotate_left
                     ·intro w'
                      go_simp; with_reducible rfl
                     rotate_left
                     ·simp only [Act.put, qa9, qb9, qc9, i64_w, i32_w]
                      rfl
                     refine pure_ (i := 12) (N := some 133) (v := ?_) (a' := ?_) q9_13 rfl rfl (any_of HT_.out (by kernel_rfl)) (fun _ _ _ h => h) (Or.inl ⟨by rfl, ?_⟩) ?_ ?_; rotate_left
                     ·intro w'
                      go_simp; with_reducible rfl
                     rotate_left
                     ·simp only [Act.put, qa9, qb9, qc9, i64_w, i32_w]
                      rfl
                     refine pure_ (i := 13) (N := some 134) (v := ?_) (a' := ?_) q9_14 rfl rfl (any_of HT_.out (by kernel_rfl)) (fun _ _ _ h => h) (Or.inl ⟨by rfl, ?_⟩) ?_ ?_; rotate_left
                     ·intro w'
                      go_simp; with_reducible rfl
                     rotate_left
                     ·simp only [Act.put, qa9, qb9, qc9, i64_w, i32_w]
                      rfl
                     refine pure_ (i := 14) (N := some 17) (v := ?_) (a' := ?_) q9_15 rfl rfl (any_of HT_.out (by kernel_rfl)) (fun _ _ _ h => h) (Or.inl ⟨by rfl, ?_⟩) ?_ ?_; rotate_left
                     ·intro w'
                      go_simp; with_reducible rfl
                     rotate_left
                     ·simp only [Act.put, qa9, qb9, qc9, i64_w, i32_w]
                      rfl
                     refine pure_ (i := 15) (N := some 18) (v := ?_) (a' := ?_) q9_16 rfl rfl (any_of HT_.out (by kernel_rfl)) (fun _ _ _ h => h) (Or.inl ⟨by rfl, ?_⟩) ?_ ?_; rotate_left
                     ·intro w'
                      go_simp; with_reducible rfl
                     rotate_left
                     ·simp only [Act.put, qa9, qb9, qc9, i64_w, i32_w]
                      rfl
                     refine pure_ (i := 16) (N := some 19) (v := ?_) (a' := ?_) q9_17 rfl rfl (any_of HT_.out (by kernel_rfl)) (fun _ _ _ h => h) (Or.inl ⟨by rfl, ?_⟩) ?_ ?_; rotate_left
                     ·intro w'
                      go_simp; with_reducible rfl
                     rotate_left
                     ·simp only [Act.put, qa9, qb9, qc9, i64_w, i32_w]
                      rfl
                     refine done_ (done_of HT_.out (by kernel_rfl)) ?_
                     try go_wp2
                     have n0_ := Aside0.mk (Kd.N_drew HO_4.out)
                     have n1_ := Aside0.mk (Kd.V_drew HL136_0.out)
                     have n2_ := Aside0.mk (Kd.V_drew HL137_0.out)
                     have n3_ := Aside0.mk (Kd.V_drew HL138_0.out)
                     have n4_ := Aside0.mk (Kd.R_drew HO141.out)
                     have n5_ := Aside0.mk (Kd.R_drew HO144.out)
                     have n6_ := Aside0.mk (Kd.C_drew HR136_0.out)
                     have n7_ := Aside0.mk (Kd.C_drew HR137_0.out)
                     have n8_ := Aside0.mk (Kd.C_drew HR138_0.out)
                     have n9_ := Aside0.mk (below_drew1 HB.out)
                     clear HO_4; clear HL136_0; clear HL137_0; clear HL138_0; clear HO141; clear HO144; clear HR136_0; clear HR137_0; clear HR138_0; clear HB
                     have HO_4 := n0_
                     have HL136_0 := n1_
                     have HL137_0 := n2_
                     have HL138_0 := n3_
                     have HO141 := n4_
                     have HO144 := n5_
                     have HR136_0 := n6_
                     have HR137_0 := n7_
                     have HR138_0 := n8_
                     have HB := n9_
                     clear n0_ n1_ n2_ n3_ n4_ n5_ n6_ n7_ n8_ n9_
                     obtain ⟨Ao71, co71, eo71⟩ := Kd.R_slice HO141.out
                     (first | subst eo71 | (injection eo71 with f1_ f2_ f3_; have f4_ := f1_.symm; have f5_ := f3_.symm; clear f1_ f2_ f3_; subst f4_; subst f5_))
                     obtain ⟨Ao72, co72, eo72⟩ := Kd.R_slice HO144.out
                     (first | subst eo72 | (injection eo72 with f1_ f2_ f3_; have f4_ := f1_.symm; have f5_ := f3_.symm; clear f1_ f2_ f3_; subst f4_; subst f5_))
                     have p146 : 0 ≤ (0 : Int) := (by omega)
                     have q146 : 0 < (t142.length : Int) := of_decide_eq_true (by assumption)
                     obtain ⟨ad146, e146, hx146_0⟩ := Kd.at_int (Kd.R_reads' HO144.out).2.2 0 p146 q146
                     cases e146
                     have qi146 : (0 < t142.length) = True := eq_true (by omega)
                     (try rw [show ((0 : Int)).toNat = 0 from rfl] at hx146_0)
                     (try rw [Addr.add_zero'] at hx146_0)
                     replace p146 := eq_true p146
                     replace q146 := eq_true q146
                     have p149 : 0 ≤ (0 : Int) := (by omega)
                     have q149 : 0 < (x4_1.length : Int) := of_decide_eq_true (by assumption)
                     obtain ⟨ad149, A149_0, c149_0, e149, hx149_0, hl149_0, hi149_0⟩ := at_L2 (Kd.N_reads' HO_4.out).2.2 0 p149 q149
                     obtain rfl : ad136 = ad149 := (by injection e149)
                     obtain ⟨ce149, hce149, hMe149, hcc149⟩ := Kd.N_get HO_4.out [] 0 p149 (by first | exact q149 | exact of_decide_eq_true (by assumption) | (have e_ := (Kd.N_reads' HO_4.out).1; omega))
                     obtain ⟨ua149_0, uc149_0, rfl, ul149_0, ge149_0⟩ := Kd.FK_slice_open hMe149
                     have hv149_0 := hcc149 0 _ rfl
                     rw [Nat.add_zero, show ((Kd.slice 3 (Kd.int .i64))).sz = 1 from rfl, Nat.mul_one] at hv149_0
                     replace hv149_0 := Option.some.inj (hv149_0.symm.trans hx149_0)
                     injection hv149_0 with hva_ hvn_ hvc_
                     rw [hva_] at ge149_0
                     rw [hvc_] at ul149_0
                     have HL149_0 := Aside0.mk (show Kd.V (Kd.int .i64) 3 _ w.heap.size _ _ (rd_L2 x4_1 0) from Kd.V_mk ul149_0 ge149_0)
                     clear hva_ hvn_ hvc_ ge149_0 ul149_0
                     clear hcc149 hce149
                     have qi149 : (0 < x4_1.length) = True := eq_true (by omega)
                     (try rw [show ((0 : Int)).toNat = 0 from rfl] at hx149_0)
                     (try rw [Addr.add_zero'] at hx149_0)
                     have HR149_0 := Aside0.mk hi149_0
                     have HC149_0 := Aside0.mk hl149_0
                     clear hi149_0 hl149_0
                     replace p149 := eq_true p149
                     replace q149 := eq_true q149
                     have p151 : 0 ≤ (1 : Int) := (by omega)
                     have q151 : 1 < (x4_1.length : Int) := of_decide_eq_true (by assumption)
                     obtain ⟨ad151, A151_0, c151_0, e151, hx151_0, hl151_0, hi151_0⟩ := at_L2 (Kd.N_reads' HO_4.out).2.2 1 p151 q151
                     obtain rfl : ad136 = ad151 := (by injection e151)
                     obtain ⟨ce151, hce151, hMe151, hcc151⟩ := Kd.N_get HO_4.out [] 1 p151 (by first | exact q151 | exact of_decide_eq_true (by assumption) | (have e_ := (Kd.N_reads' HO_4.out).1; omega))
                     obtain ⟨ua151_0, uc151_0, rfl, ul151_0, ge151_0⟩ := Kd.FK_slice_open hMe151
                     have hv151_0 := hcc151 0 _ rfl
                     rw [Nat.add_zero, show ((Kd.slice 3 (Kd.int .i64))).sz = 1 from rfl, Nat.mul_one] at hv151_0
                     replace hv151_0 := Option.some.inj (hv151_0.symm.trans hx151_0)
                     injection hv151_0 with hva_ hvn_ hvc_
                     rw [hva_] at ge151_0
                     rw [hvc_] at ul151_0
                     have HL151_0 := Aside0.mk (show Kd.V (Kd.int .i64) 3 _ w.heap.size _ _ (rd_L2 x4_1 1) from Kd.V_mk ul151_0 ge151_0)
                     clear hva_ hvn_ hvc_ ge151_0 ul151_0
                     clear hcc151 hce151
                     (try simp only [show (1 : Int).toNat = 1 from rfl, Nat.reduceMul, Nat.reduceEqDiff, Go.Addr.add, ↓reduceIte] at hx151_0)
                     have qi151 : (1 < x4_1.length) = True := eq_true (by omega)
                     (try rw [show ((1 : Int)).toNat = 1 from rfl] at hx151_0)
                     have HR151_0 := Aside0.mk hi151_0
                     have HC151_0 := Aside0.mk hl151_0
                     clear hi151_0 hl151_0
                     replace p151 := eq_true p151
                     replace q151 := eq_true q151
                     have p153 : 0 ≤ (2 : Int) := (by omega)
                     have q153 : 2 < (x4_1.length : Int) := of_decide_eq_true (by assumption)
                     obtain ⟨ad153, A153_0, c153_0, e153, hx153_0, hl153_0, hi153_0⟩ := at_L2 (Kd.N_reads' HO_4.out).2.2 2 p153 q153
                     obtain rfl : ad136 = ad153 := (by injection e153)
                     obtain ⟨ce153, hce153, hMe153, hcc153⟩ := Kd.N_get HO_4.out [] 2 p153 (by first | exact q153 | exact of_decide_eq_true (by assumption) | (have e_ := (Kd.N_reads' HO_4.out).1; omega))
                     obtain ⟨ua153_0, uc153_0, rfl, ul153_0, ge153_0⟩ := Kd.FK_slice_open hMe153
                     have hv153_0 := hcc153 0 _ rfl
                     rw [Nat.add_zero, show ((Kd.slice 3 (Kd.int .i64))).sz = 1 from rfl, Nat.mul_one] at hv153_0
                     replace hv153_0 := Option.some.inj (hv153_0.symm.trans hx153_0)
                     injection hv153_0 with hva_ hvn_ hvc_
                     rw [hva_] at ge153_0
                     rw [hvc_] at ul153_0
                     have HL153_0 := Aside0.mk (show Kd.V (Kd.int .i64) 3 _ w.heap.size _ _ (rd_L2 x4_1 2) from Kd.V_mk ul153_0 ge153_0)
                     clear hva_ hvn_ hvc_ ge153_0 ul153_0
                     clear hcc153 hce153
                     (try simp only [show (2 : Int).toNat = 2 from rfl, Nat.reduceMul, Nat.reduceEqDiff, Go.Addr.add, ↓reduceIte] at hx153_0)
                     have qi153 : (2 < x4_1.length) = True := eq_true (by omega)
                     (try rw [show ((2 : Int)).toNat = 2 from rfl] at hx153_0)
                     have HR153_0 := Aside0.mk hi153_0
                     have HC153_0 := Aside0.mk hl153_0
                     clear hi153_0 hl153_0
                     replace p153 := eq_true p153
                     replace q153 := eq_true q153
                     refine start_ (n := 45) (S := fun w' => w'.cell? ad146 = some (.int .i64 (rd t142 0)) ∧ w'.cell? ad136 = some (.slice A149_0 (rd_L2 x4_1 0).length c149_0) ∧ w'.cell? ⟨ad136.block, ad136.off + 1, none⟩ = some (.slice A151_0 (rd_L2 x4_1 1).length c151_0) ∧ w'.cell? ⟨ad136.block, ad136.off + 2, none⟩ = some (.slice A153_0 (rd_L2 x4_1 2).length c153_0)) (ds := []) q9_18 (by kernel_rfl) rfl rfl ⟨hx146_0, hx149_0, hx151_0, hx153_0⟩ (fun hHeld => ?_); refine with_tabW laws_FnCarrySave.tab25 laws_FnCarrySave.bits25 (fun HT_ HW_ => ?_)
                     generalize w69.drew = w70 at HO_4 HL136_0 HL137_0 HL138_0 HO141 HO144 HR136_0 HR137_0 HR138_0 HB HL149_0 HL151_0 HL153_0 HR149_0 HR151_0 HR153_0 hx146_0 hx149_0 hx151_0 hx153_0 hHeld ⊢
                     refine pure_ (i := 0) (N := some 135) (v := ?_) (a' := ?_) q9_19 rfl rfl (any_of HT_.out (by kernel_rfl)) (fun _ _ _ h => h) (Or.inl ⟨by rfl, ?_⟩) ?_ ?_; rotate_left
                     ·intro w'
                      go_simp; with_reducible rfl
                     rotate_left
                     ·simp only [Act.put, qa9, qb9, qc9, i64_w, i32_w]
                      rfl
                     refine pure_ (i := 1) (N := some 136) (v := ?_) (a' := ?_) q9_20 rfl rfl (any_of HT_.out (by kernel_rfl)) (fun _ _ _ h => h) (Or.inl ⟨by rfl, ?_⟩) ?_ ?_; rotate_left
                     ·intro w'
                      go_simp; with_reducible rfl
                     rotate_left
                     ·simp only [Act.put, qa9, qb9, qc9, i64_w, i32_w]
                      rfl
                     refine pure_ (i := 2) (N := some 137) (v := ?_) (a' := ?_) q9_21 rfl rfl (any_of HT_.out (by kernel_rfl)) (fun _ _ _ h => h) (Or.inl ⟨by rfl, ?_⟩) ?_ ?_; rotate_left
                     ·intro w'
                      go_simp; with_reducible rfl
                     rotate_left
                     ·simp only [Act.put, qa9, qb9, qc9, i64_w, i32_w]
                      rfl
                     refine pure_ (i := 3) (N := some 138) (v := ?_) (a' := ?_) q9_22 rfl rfl (any_of HT_.out (by kernel_rfl)) (fun _ _ _ h => h) (Or.inl ⟨by rfl, ?_⟩) ?_ ?_; rotate_left
                     ·intro w'
                      go_simp; with_reducible rfl
                     rotate_left
                     ·simp only [Act.put, qa9, qb9, qc9, i64_w, i32_w]
                      rfl
                     refine pure_ (i := 4) (N := some 139) (v := ?_) (a' := ?_) q9_23 rfl rfl (any_of HT_.out (by kernel_rfl)) (fun _ _ _ h => h) (Or.inl ⟨by rfl, ?_⟩) ?_ ?_; rotate_left
                     ·intro w'
                      go_simp; with_reducible rfl
                     rotate_left
                     ·simp only [Act.put, qa9, qb9, qc9, i64_w, i32_w]
                      rfl
                     refine pure_ (i := 5) (N := some 140) (v := ?_) (a' := ?_) q9_24 rfl rfl (any_of HT_.out (by kernel_rfl)) (fun _ _ _ h => h) (Or.inl ⟨by rfl, ?_⟩) ?_ ?_; rotate_left
                     ·intro w'
                      go_simp; with_reducible rfl
                     rotate_left
                     ·simp only [Act.put, qa9, qb9, qc9, i64_w, i32_w]
                      rfl
                     refine pure_ (i := 6) (N := some 141) (v := ?_) (a' := ?_) q9_25 rfl rfl (any_of HT_.out (by kernel_rfl)) (fun _ _ _ h => h) (Or.inl ⟨by rfl, ?_⟩) ?_ ?_; rotate_left
                     ·intro w'
                      go_simp; with_reducible rfl
                     rotate_left
                     ·simp only [Act.put, qa9, qb9, qc9, i64_w, i32_w]
                      rfl
                     refine pure_ (i := 7) (N := some 142) (v := ?_) (a' := ?_) q9_26 rfl rfl (any_of HT_.out (by kernel_rfl)) (fun _ _ _ h => h) (Or.inl ⟨by rfl, ?_⟩) ?_ ?_; rotate_left
                     ·intro w'
                      go_simp; with_reducible rfl
                     rotate_left
                     ·simp only [Act.put, qa9, qb9, qc9, i64_w, i32_w]
                      rfl
                     refine pure_ (i := 8) (N := some 143) (v := ?_) (a' := ?_) q9_27 rfl rfl (any_of HT_.out (by kernel_rfl)) (fun _ _ _ h => h) (Or.inl ⟨by rfl, ?_⟩) ?_ ?_; rotate_left
                     ·intro w'
                      go_simp; with_reducible rfl
                     rotate_left
                     ·simp only [Act.put, qa9, qb9, qc9, i64_w, i32_w]
                      rfl
                     refine pure_ (i := 9) (N := some 144) (v := ?_) (a' := ?_) q9_28 rfl rfl (any_of HT_.out (by kernel_rfl)) (fun _ _ _ h => h) (Or.inl ⟨by rfl, ?_⟩) ?_ ?_; rotate_left
                     ·intro w'
                      go_simp; with_reducible rfl
                     rotate_left
                     ·simp only [Act.put, qa9, qb9, qc9, i64_w, i32_w]
                      rfl
                     refine pure_ (i := 10) (N := some 145) (v := ?_) (a' := ?_) q9_29 rfl rfl (any_of HT_.out (by kernel_rfl)) (fun _ _ _ h => h) (Or.inl ⟨by rfl, ?_⟩) ?_ ?_; rotate_left
                     ·intro w'
                      go_simp; with_reducible rfl
                     rotate_left
                     ·simp only [Act.put, qa9, qb9, qc9, i64_w, i32_w]
                      rfl
                     refine pure_ (i := 11) (N := some 146) (v := ?_) (a' := ?_) q9_30 rfl rfl (any_of HT_.out (by kernel_rfl)) (fun _ _ _ h => h) (Or.inl ⟨by rfl, ?_⟩) ?_ ?_; rotate_left
                     ·intro w'
                      go_simp; with_reducible rfl
                     rotate_left
                     ·simp only [Act.put, qa9, qb9, qc9, i64_w, i32_w]
                      rfl
                     refine pure_ (i := 12) (N := some 147) (v := ?_) (a' := ?_) q9_31 rfl rfl (any_of HT_.out (by kernel_rfl)) (fun _ _ _ h => h) (Or.inl ⟨by rfl, ?_⟩) ?_ ?_; rotate_left
                     ·intro w'
                      go_simp; with_reducible rfl
                     rotate_left
                     ·simp only [Act.put, qa9, qb9, qc9, i64_w, i32_w]
                      rfl
                     refine pure_ (i := 13) (N := some 148) (v := ?_) (a' := ?_) q9_32 rfl rfl (any_of HT_.out (by kernel_rfl)) (fun _ _ _ h => h) (Or.inl ⟨by rfl, ?_⟩) ?_ ?_; rotate_left
                     ·intro w'
                      go_simp; with_reducible rfl
                     rotate_left
                     ·simp only [Act.put, qa9, qb9, qc9, i64_w, i32_w]
                      rfl
                     refine pure_ (i := 14) (N := some 149) (v := ?_) (a' := ?_) q9_33 rfl rfl (any_of HT_.out (by kernel_rfl)) (fun _ _ _ h => h) (Or.inl ⟨by rfl, ?_⟩) ?_ ?_; rotate_left
                     ·intro w'
                      go_simp; with_reducible rfl
                     rotate_left
                     ·simp only [Act.put, qa9, qb9, qc9, i64_w, i32_w]
                      rfl
                     refine pure_ (i := 15) (N := some 150) (v := ?_) (a' := ?_) q9_34 rfl rfl (any_of HT_.out (by kernel_rfl)) (fun _ _ _ h => h) (Or.inl ⟨by rfl, ?_⟩) ?_ ?_; rotate_left
                     ·intro w'
                      go_simp; with_reducible rfl
                     rotate_left
                     ·simp only [Act.put, qa9, qb9, qc9, i64_w, i32_w]
                      rfl
                     refine take_ (i := 16) (N := some 151) (v := ?_) (a' := ?_) q9_35 rfl rfl (take_ofW HT_.out HW_.out (by kernel_rfl)) (fun _ _ _ h => h) (Or.inl ⟨by rfl, ?_⟩) hHeld ?_ ?_; rotate_left
                     ·rintro w' ⟨s0, s1, s2, s3⟩
                      go_simp; with_reducible rfl
                     rotate_left
                     ·simp only [Act.put, qa9, qb9, qc9, i64_w, i32_w]
                      rfl
                     refine pure_ (i := 17) (N := some 152) (v := ?_) (a' := ?_) q9_36 rfl rfl (any_of HT_.out (by kernel_rfl)) (fun _ _ _ h => h) (Or.inl ⟨by rfl, ?_⟩) ?_ ?_; rotate_left
                     ·intro w'
                      go_simp; with_reducible rfl
                     rotate_left
                     ·simp only [Act.put, qa9, qb9, qc9, i64_w, i32_w]
                      rfl
                     refine pure_ (i := 18) (N := some 153) (v := ?_) (a' := ?_) q9_37 rfl rfl (any_of HT_.out (by kernel_rfl)) (fun _ _ _ h => h) (Or.inl ⟨by rfl, ?_⟩) ?_ ?_; rotate_left
                     ·intro w'
                      go_simp; with_reducible rfl
                     rotate_left
                     ·simp only [Act.put, qa9, qb9, qc9, i64_w, i32_w]
                      rfl
                     refine pure_ (i := 19) (N := some 154) (v := ?_) (a' := ?_) q9_38 rfl rfl (any_of HT_.out (by kernel_rfl)) (fun _ _ _ h => h) (Or.inl ⟨by rfl, ?_⟩) ?_ ?_; rotate_left
                     ·intro w'
                      go_simp; with_reducible rfl
                     rotate_left
                     ·simp only [Act.put, qa9, qb9, qc9, i64_w, i32_w]
                      rfl
                     refine pure_ (i := 20) (N := some 155) (v := ?_) (a' := ?_) q9_39 rfl rfl (any_of HT_.out (by kernel_rfl)) (fun _ _ _ h => h) (Or.inl ⟨by rfl, ?_⟩) ?_ ?_; rotate_left
                     ·intro w'
                      go_simp; with_reducible rfl
                     rotate_left
                     ·simp only [Act.put, qa9, qb9, qc9, i64_w, i32_w]
                      rfl
                     refine pure_ (i := 22) (N := some 157) (v := ?_) (a' := ?_) q9_40 rfl rfl (any_of HT_.out (by kernel_rfl)) (fun _ _ _ h => h) (Or.inl ⟨by rfl, ?_⟩) ?_ ?_; rotate_left
                     ·intro w'
                      go_simp; with_reducible rfl
                     rotate_left
                     ·simp only [Act.put, qa9, qb9, qc9, i64_w, i32_w]
                      rfl
                     refine pure_ (i := 25) (N := some 160) (v := ?_) (a' := ?_) q9_41 rfl rfl (any_of HT_.out (by kernel_rfl)) (fun _ _ _ h => h) (Or.inl ⟨by rfl, ?_⟩) ?_ ?_; rotate_left
                     ·intro w'
                      go_simp; with_reducible rfl
                     rotate_left
                     ·simp only [Act.put, qa9, qb9, qc9, i64_w, i32_w]
                      rfl
                     refine pure_ (i := 26) (N := some 161) (v := ?_) (a' := ?_) q9_42 rfl rfl (any_of HT_.out (by kernel_rfl)) (fun _ _ _ h => h) (Or.inl ⟨by rfl, ?_⟩) ?_ ?_; rotate_left
                     ·intro w'
                      go_simp; with_reducible rfl
                     rotate_left
                     ·simp only [Act.put, qa9, qb9, qc9, i64_w, i32_w]
                      rfl
                     refine pure_ (i := 30) (N := some 165) (v := ?_) (a' := ?_) q9_43 rfl rfl (any_of HT_.out (by kernel_rfl)) (fun _ _ _ h => h) (Or.inl ⟨by rfl, ?_⟩) ?_ ?_; rotate_left
                     ·intro w'
                      go_simp; with_reducible rfl
                     rotate_left
                     ·simp only [Act.put, qa9, qb9, qc9, i64_w, i32_w]
                      rfl
                     refine pure_ (i := 31) (N := some 166) (v := ?_) (a' := ?_) q9_44 rfl rfl (any_of HT_.out (by kernel_rfl)) (fun _ _ _ h => h) (Or.inl ⟨by rfl, ?_⟩) ?_ ?_; rotate_left
                     ·intro w'
                      go_simp; with_reducible rfl
                     rotate_left
                     ·simp only [Act.put, qa9, qb9, qc9, i64_w, i32_w]
                      rfl
                     refine pure_ (i := 35) (N := some 170) (v := ?_) (a' := ?_) q9_45 rfl rfl (any_of HT_.out (by kernel_rfl)) (fun _ _ _ h => h) (Or.inl ⟨by rfl, ?_⟩) ?_ ?_; rotate_left
                     ·intro w'
                      go_simp; with_reducible rfl
                     rotate_left
                     ·simp only [Act.put, qa9, qb9, qc9, i64_w, i32_w]
                      rfl
                     refine pure_ (i := 36) (N := some 171) (v := ?_) (a' := ?_) q9_46 rfl rfl (any_of HT_.out (by kernel_rfl)) (fun _ _ _ h => h) (Or.inl ⟨by rfl, ?_⟩) ?_ ?_; rotate_left
                     ·intro w'
                      go_simp; with_reducible rfl
                     rotate_left
                     ·simp only [Act.put, qa9, qb9, qc9, i64_w, i32_w]
                      rfl
                     refine pure_ (i := 40) (N := some 175) (v := ?_) (a' := ?_) q9_47 rfl rfl (any_of HT_.out (by kernel_rfl)) (fun _ _ _ h => h) (Or.inl ⟨by rfl, ?_⟩) ?_ ?_; rotate_left
                     ·intro w'
                      go_simp; with_reducible rfl
                     rotate_left
                     ·simp only [Act.put, qa9, qb9, qc9, i64_w, i32_w]
                      rfl
                     refine take_ (i := 27) (N := some 162) (v := ?_) (a' := ?_) q9_48 rfl rfl (take_ofW HT_.out HW_.out (by kernel_rfl)) (fun _ _ _ h => h) (Or.inl ⟨by rfl, ?_⟩) hHeld ?_ ?_; rotate_left
                     ·rintro w' ⟨s0, s1, s2, s3⟩
                      go_simp; with_reducible rfl
                     rotate_left
                     ·simp only [Act.put, qa9, qb9, qc9, i64_w, i32_w]
                      rfl
                     refine take_ (i := 32) (N := some 167) (v := ?_) (a' := ?_) q9_49 rfl rfl (take_ofW HT_.out HW_.out (by kernel_rfl)) (fun _ _ _ h => h) (Or.inl ⟨by rfl, ?_⟩) hHeld ?_ ?_; rotate_left
                     ·rintro w' ⟨s0, s1, s2, s3⟩
                      go_simp; with_reducible rfl
                     rotate_left
                     ·simp only [Act.put, qa9, qb9, qc9, i64_w, i32_w]
                      rfl
                     refine take_ (i := 37) (N := some 172) (v := ?_) (a' := ?_) q9_50 rfl rfl (take_ofW HT_.out HW_.out (by kernel_rfl)) (fun _ _ _ h => h) (Or.inl ⟨by rfl, ?_⟩) hHeld ?_ ?_; rotate_left
                     ·rintro w' ⟨s0, s1, s2, s3⟩
                      go_simp; with_reducible rfl
                     rotate_left
                     ·simp only [Act.put, qa9, qb9, qc9, i64_w, i32_w]
                      rfl
                     refine one_ (i := 21) (N := some 156) q9_51 rfl rfl (one_of HT_.out (by kernel_rfl)) (by decide) (fun K hK => ?_)
                     refine goes_ Try.func29 (by kernel_rfl) rfl #[.slice Ao71 t139.length co71] (by rfl) rfl rfl (by (try simp only [List.map_toArray, List.map_cons, List.map_nil]); first | done | rfl | (simp only [List.length_drop, List.length_take]; rfl)) ?_
                     with_reducible refine (impl_ValueOf.calls kj28 _ _ t139 t147 _ ?side1 ?side2 A62.out).mono ?_
                     (case side1 => repeat (first | exact (Kd.R_reads' HO141.out).2.2 | (with_reducible refine Kd.C_alloc ?_ _) | (with_reducible refine Kd.C_drewN ?_ _) | (with_reducible refine Kd.C_drew ?_)))
                     (case side2 => exact (Kd.R_reads' HO141.out).2.1)
                     rintro e w' ⟨rfl, ⟨nd, rfl⟩⟩
                     refine ⟨_, rfl, ?_⟩
                     refine hK.out _ _ ⟨hHeld.1, hHeld.2.1, hHeld.2.2.1, hHeld.2.2.2⟩ (fun hHeld => ?_)
                     clear hK K
                     refine norm_ (a' := ?_) ?_ ?_; rotate_left
                     ·show Act.put _ (some 156) _ = _
                      simp only [Act.put, qa9, qb9, qc9, i64_w, i32_w]
                      rfl
                     refine one_ (i := 23) (N := some 158) q9_52 rfl rfl (one_of HT_.out (by kernel_rfl)) (by decide) (fun K hK => ?_)
                     refine goes_ Try.func29 (by kernel_rfl) rfl #[.slice (some ad146) t142.length co72] (by rfl) rfl rfl (by (try simp only [List.map_toArray, List.map_cons, List.map_nil]); first | done | rfl | (simp only [List.length_drop, List.length_take]; rfl)) ?_
                     with_reducible refine (impl_ValueOf.calls kj28 _ _ t142 t148 _ ?side1 ?side2 A63.out).mono ?_
                     (case side1 => repeat (first | exact (Kd.R_reads' HO144.out).2.2 | (with_reducible refine Kd.C_alloc ?_ _) | (with_reducible refine Kd.C_drewN ?_ _) | (with_reducible refine Kd.C_drew ?_)))
                     (case side2 => exact (Kd.R_reads' HO144.out).2.1)
                     rintro e w' ⟨rfl, ⟨nd, rfl⟩⟩
                     refine ⟨_, rfl, ?_⟩
                     refine hK.out _ _ ⟨hHeld.1, hHeld.2.1, hHeld.2.2.1, hHeld.2.2.2⟩ (fun hHeld => ?_)
                     clear hK K
                     refine norm_ (a' := ?_) ?_ ?_; rotate_left
                     ·show Act.put _ (some 158) _ = _
                      simp only [Act.put, qa9, qb9, qc9, i64_w, i32_w]
                      rfl
                     refine pure_ (i := 24) (N := some 159) (v := ?_) (a' := ?_) q9_53 rfl rfl (any_of HT_.out (by kernel_rfl)) (fun _ _ _ h => h) (Or.inl ⟨by rfl, ?_⟩) ?_ ?_; rotate_left
                     ·intro w'
                      go_simp; with_reducible rfl
                     rotate_left
                     ·simp only [Act.put, qa9, qb9, qc9, i64_w, i32_w]
                      rfl
                     refine one_ (i := 28) (N := some 163) q9_54 rfl rfl (one_of HT_.out (by kernel_rfl)) (by decide) (fun K hK => ?_)
                     refine goes_ Try.func29 (by kernel_rfl) rfl #[.slice A149_0 (rd_L2 x4_1 0).length c149_0] (by rfl) rfl rfl (by (try simp only [List.map_toArray, List.map_cons, List.map_nil]); first | done | rfl | (simp only [List.length_drop, List.length_take]; rfl)) ?_
                     with_reducible refine (impl_ValueOf.calls kj28 _ _ (rd_L2 x4_1 0) t150 _ ?side1 ?side2 A64.out).mono ?_
                     (case side1 => repeat (first | exact (by repeat (first | (with_reducible exact HR149_0.out) | (with_reducible refine Kd.C_alloc ?_ _) | (with_reducible refine Kd.C_drewN ?_ _) | (with_reducible refine Kd.C_drew ?_) | exact HR149_0.out)) | (with_reducible refine Kd.C_alloc ?_ _) | (with_reducible refine Kd.C_drewN ?_ _) | (with_reducible refine Kd.C_drew ?_)))
                     (case side2 => exact HC149_0.out)
                     rintro e w' ⟨rfl, ⟨nd, rfl⟩⟩
                     refine ⟨_, rfl, ?_⟩
                     refine hK.out _ _ ⟨hHeld.1, hHeld.2.1, hHeld.2.2.1, hHeld.2.2.2⟩ (fun hHeld => ?_)
                     clear hK K
                     refine norm_ (a' := ?_) ?_ ?_; rotate_left
                     ·show Act.put _ (some 163) _ = _
                      simp only [Act.put, qa9, qb9, qc9, i64_w, i32_w]
                      rfl
                     refine pure_ (i := 29) (N := some 164) (v := ?_) (a' := ?_) q9_55 rfl rfl (any_of HT_.out (by kernel_rfl)) (fun _ _ _ h => h) (Or.inl ⟨by rfl, ?_⟩) ?_ ?_; rotate_left
                     ·intro w'
                      go_simp; with_reducible rfl
                     rotate_left
                     ·simp only [Act.put, qa9, qb9, qc9, i64_w, i32_w]
                      rfl
                     refine one_ (i := 33) (N := some 168) q9_56 rfl rfl (one_of HT_.out (by kernel_rfl)) (by decide) (fun K hK => ?_)
                     refine goes_ Try.func29 (by kernel_rfl) rfl #[.slice A151_0 (rd_L2 x4_1 1).length c151_0] (by rfl) rfl rfl (by (try simp only [List.map_toArray, List.map_cons, List.map_nil]); first | done | rfl | (simp only [List.length_drop, List.length_take]; rfl)) ?_
                     with_reducible refine (impl_ValueOf.calls kj28 _ _ (rd_L2 x4_1 1) t152 _ ?side1 ?side2 A65.out).mono ?_
                     (case side1 => repeat (first | exact (by repeat (first | (with_reducible exact HR151_0.out) | (with_reducible refine Kd.C_alloc ?_ _) | (with_reducible refine Kd.C_drewN ?_ _) | (with_reducible refine Kd.C_drew ?_) | exact HR151_0.out)) | (with_reducible refine Kd.C_alloc ?_ _) | (with_reducible refine Kd.C_drewN ?_ _) | (with_reducible refine Kd.C_drew ?_)))
                     (case side2 => exact HC151_0.out)
                     rintro e w' ⟨rfl, ⟨nd, rfl⟩⟩
                     refine ⟨_, rfl, ?_⟩
                     refine hK.out _ _ ⟨hHeld.1, hHeld.2.1, hHeld.2.2.1, hHeld.2.2.2⟩ (fun hHeld => ?_)
                     clear hK K
                     refine norm_ (a' := ?_) ?_ ?_; rotate_left
                     ·show Act.put _ (some 168) _ = _
                      simp only [Act.put, qa9, qb9, qc9, i64_w, i32_w]
                      rfl
                     refine pure_ (i := 34) (N := some 169) (v := ?_) (a' := ?_) q9_57 rfl rfl (any_of HT_.out (by kernel_rfl)) (fun _ _ _ h => h) (Or.inl ⟨by rfl, ?_⟩) ?_ ?_; rotate_left
                     ·intro w'
                      go_simp; with_reducible rfl
                     rotate_left
                     ·simp only [Act.put, qa9, qb9, qc9, i64_w, i32_w]
                      rfl
                     refine one_ (i := 38) (N := some 173) q9_58 rfl rfl (one_of HT_.out (by kernel_rfl)) (by decide) (fun K hK => ?_)
                     refine goes_ Try.func29 (by kernel_rfl) rfl #[.slice A153_0 (rd_L2 x4_1 2).length c153_0] (by rfl) rfl rfl (by (try simp only [List.map_toArray, List.map_cons, List.map_nil]); first | done | rfl | (simp only [List.length_drop, List.length_take]; rfl)) ?_
                     with_reducible refine (impl_ValueOf.calls kj28 _ _ (rd_L2 x4_1 2) t154 _ ?side1 ?side2 A66.out).mono ?_
                     (case side1 => repeat (first | exact (by repeat (first | (with_reducible exact HR153_0.out) | (with_reducible refine Kd.C_alloc ?_ _) | (with_reducible refine Kd.C_drewN ?_ _) | (with_reducible refine Kd.C_drew ?_) | exact HR153_0.out)) | (with_reducible refine Kd.C_alloc ?_ _) | (with_reducible refine Kd.C_drewN ?_ _) | (with_reducible refine Kd.C_drew ?_)))
                     (case side2 => exact HC153_0.out)
                     rintro e w' ⟨rfl, ⟨nd, rfl⟩⟩
                     refine ⟨_, rfl, ?_⟩
                     refine hK.out _ _ ⟨hHeld.1, hHeld.2.1, hHeld.2.2.1, hHeld.2.2.2⟩ (fun hHeld => ?_)
                     clear hK K
                     refine norm_ (a' := ?_) ?_ ?_; rotate_left
                     ·show Act.put _ (some 173) _ = _
                      simp only [Act.put, qa9, qb9, qc9, i64_w, i32_w]
                      rfl
                     refine pure_ (i := 39) (N := some 174) (v := ?_) (a' := ?_) q9_59 rfl rfl (any_of HT_.out (by kernel_rfl)) (fun _ _ _ h => h) (Or.inl ⟨by rfl, ?_⟩) ?_ ?_; rotate_left
                     ·intro w'
                      go_simp; with_reducible rfl
                     rotate_left
                     ·simp only [Act.put, qa9, qb9, qc9, i64_w, i32_w]
                      rfl
                     refine pure_ (i := 41) (N := some 176) (v := ?_) (a' := ?_) q9_60 rfl rfl (any_of HT_.out (by kernel_rfl)) (fun _ _ _ h => h) (Or.inl ⟨by rfl, ?_⟩) ?_ ?_; rotate_left
                     ·intro w'
                      go_simp; with_reducible rfl
                     rotate_left
                     ·simp only [Act.put, qa9, qb9, qc9, i64_w, i32_w]
                      rfl
                     refine pure_ (i := 42) (N := some 177) (v := ?_) (a' := ?_) q9_61 rfl rfl (any_of HT_.out (by kernel_rfl)) (fun _ _ _ h => h) (Or.inl ⟨by rfl, ?_⟩) ?_ ?_; rotate_left
                     ·intro w'
                      go_simp; with_reducible rfl
                     rotate_left
                     ·simp only [Act.put, qa9, qb9, qc9, i64_w, i32_w]
                      rfl
                     refine pure_ (i := 43) (N := some 178) (v := ?_) (a' := ?_) q9_62 rfl rfl (any_of HT_.out (by kernel_rfl)) (fun _ _ _ h => h) (Or.inl ⟨by rfl, ?_⟩) ?_ ?_; rotate_left
                     ·intro w'
                      go_simp; with_reducible rfl
                     rotate_left
                     ·simp only [Act.put, qa9, qb9, qc9, i64_w, i32_w]
                      rfl
                     refine pure_ (i := 44) (N := some 2) (v := ?_) (a' := ?_) q9_63 rfl rfl (any_of HT_.out (by kernel_rfl)) (fun _ _ _ h => h) (Or.inl ⟨by rfl, ?_⟩) ?_ ?_; rotate_left
                     ·intro w'
                      go_simp; with_reducible rfl
                     rotate_left
                     ·simp only [Act.put, qa9, qb9, qc9, i64_w, i32_w]
                      rfl
                     refine done_ (done_of HT_.out (by kernel_rfl)) ?_
                     try go_wp2
                     go_ret
                     exact ⟨by first | rfl | (simp [errW_none, errW_some] <;> rfl) | (simp [*, errW_none, errW_some] <;> rfl), by repeat (first | (with_reducible first | exact HB.out | apply below_alloc | apply pw_below_drewN | apply below_drew1) | exact HB.out)⟩
                   ·rw [if_neg c61] at H
                    have c61b0 : ((rd t142 0) == 0) = false := beq_eq_false_iff_ne.mpr c61
                    have c61b1 : ((rd t142 0) != 0) = true := bne_iff_ne.mpr c61
                    obtain rfl := Option.some.inj H
                    try go_wp2
                    have n0_ := Aside0.mk (Kd.N_drew HO_4.out)
                    have n1_ := Aside0.mk (below_drew1 HB.out)
                    clear HO_4; clear HB
                    have HO_4 := n0_
                    have HB := n1_
                    clear n0_ n1_
                    have p136 : 0 ≤ (0 : Int) := (by omega)
                    have q136 : 0 < (x4_1.length : Int) := of_decide_eq_true (by assumption)
                    obtain ⟨ad136, A136_0, c136_0, e136, hx136_0, hl136_0, hi136_0⟩ := at_L2 (Kd.N_reads' HO_4.out).2.2 0 p136 q136
                    cases e136
                    obtain ⟨ce136, hce136, hMe136, hcc136⟩ := Kd.N_get HO_4.out [] 0 p136 (by first | exact q136 | exact of_decide_eq_true (by assumption) | (have e_ := (Kd.N_reads' HO_4.out).1; omega))
                    obtain ⟨ua136_0, uc136_0, rfl, ul136_0, ge136_0⟩ := Kd.FK_slice_open hMe136
                    have hv136_0 := hcc136 0 _ rfl
                    rw [Nat.add_zero, show ((Kd.slice 3 (Kd.int .i64))).sz = 1 from rfl, Nat.mul_one] at hv136_0
                    replace hv136_0 := Option.some.inj (hv136_0.symm.trans hx136_0)
                    injection hv136_0 with hva_ hvn_ hvc_
                    rw [hva_] at ge136_0
                    rw [hvc_] at ul136_0
                    have HL136_0 := Aside0.mk (show Kd.V (Kd.int .i64) 3 _ w.heap.size _ _ (rd_L2 x4_1 0) from Kd.V_mk ul136_0 ge136_0)
                    clear hva_ hvn_ hvc_ ge136_0 ul136_0
                    clear hcc136 hce136
                    have qi136 : (0 < x4_1.length) = True := eq_true (by omega)
                    (try rw [show ((0 : Int)).toNat = 0 from rfl] at hx136_0)
                    (try rw [Addr.add_zero'] at hx136_0)
                    have HR136_0 := Aside0.mk hi136_0
                    have HC136_0 := Aside0.mk hl136_0
                    clear hi136_0 hl136_0
                    replace p136 := eq_true p136
                    replace q136 := eq_true q136
                    have p137 : 0 ≤ (1 : Int) := (by omega)
                    have q137 : 1 < (x4_1.length : Int) := of_decide_eq_true (by assumption)
                    obtain ⟨ad137, A137_0, c137_0, e137, hx137_0, hl137_0, hi137_0⟩ := at_L2 (Kd.N_reads' HO_4.out).2.2 1 p137 q137
                    obtain rfl : ad136 = ad137 := (by injection e137)
                    obtain ⟨ce137, hce137, hMe137, hcc137⟩ := Kd.N_get HO_4.out [] 1 p137 (by first | exact q137 | exact of_decide_eq_true (by assumption) | (have e_ := (Kd.N_reads' HO_4.out).1; omega))
                    obtain ⟨ua137_0, uc137_0, rfl, ul137_0, ge137_0⟩ := Kd.FK_slice_open hMe137
                    have hv137_0 := hcc137 0 _ rfl
                    rw [Nat.add_zero, show ((Kd.slice 3 (Kd.int .i64))).sz = 1 from rfl, Nat.mul_one] at hv137_0
                    replace hv137_0 := Option.some.inj (hv137_0.symm.trans hx137_0)
                    injection hv137_0 with hva_ hvn_ hvc_
                    rw [hva_] at ge137_0
                    rw [hvc_] at ul137_0
                    have HL137_0 := Aside0.mk (show Kd.V (Kd.int .i64) 3 _ w.heap.size _ _ (rd_L2 x4_1 1) from Kd.V_mk ul137_0 ge137_0)
                    clear hva_ hvn_ hvc_ ge137_0 ul137_0
                    clear hcc137 hce137
                    (try simp only [show (1 : Int).toNat = 1 from rfl, Nat.reduceMul, Nat.reduceEqDiff, Go.Addr.add, ↓reduceIte] at hx137_0)
                    have qi137 : (1 < x4_1.length) = True := eq_true (by omega)
                    (try rw [show ((1 : Int)).toNat = 1 from rfl] at hx137_0)
                    have HR137_0 := Aside0.mk hi137_0
                    have HC137_0 := Aside0.mk hl137_0
                    clear hi137_0 hl137_0
                    replace p137 := eq_true p137
                    replace q137 := eq_true q137
                    have p138 : 0 ≤ (2 : Int) := (by omega)
                    have q138 : 2 < (x4_1.length : Int) := of_decide_eq_true (by assumption)
                    obtain ⟨ad138, A138_0, c138_0, e138, hx138_0, hl138_0, hi138_0⟩ := at_L2 (Kd.N_reads' HO_4.out).2.2 2 p138 q138
                    obtain rfl : ad136 = ad138 := (by injection e138)
                    obtain ⟨ce138, hce138, hMe138, hcc138⟩ := Kd.N_get HO_4.out [] 2 p138 (by first | exact q138 | exact of_decide_eq_true (by assumption) | (have e_ := (Kd.N_reads' HO_4.out).1; omega))
                    obtain ⟨ua138_0, uc138_0, rfl, ul138_0, ge138_0⟩ := Kd.FK_slice_open hMe138
                    have hv138_0 := hcc138 0 _ rfl
                    rw [Nat.add_zero, show ((Kd.slice 3 (Kd.int .i64))).sz = 1 from rfl, Nat.mul_one] at hv138_0
                    replace hv138_0 := Option.some.inj (hv138_0.symm.trans hx138_0)
                    injection hv138_0 with hva_ hvn_ hvc_
                    rw [hva_] at ge138_0
                    rw [hvc_] at ul138_0
                    have HL138_0 := Aside0.mk (show Kd.V (Kd.int .i64) 3 _ w.heap.size _ _ (rd_L2 x4_1 2) from Kd.V_mk ul138_0 ge138_0)
                    clear hva_ hvn_ hvc_ ge138_0 ul138_0
                    clear hcc138 hce138
                    (try simp only [show (2 : Int).toNat = 2 from rfl, Nat.reduceMul, Nat.reduceEqDiff, Go.Addr.add, ↓reduceIte] at hx138_0)
                    have qi138 : (2 < x4_1.length) = True := eq_true (by omega)
                    (try rw [show ((2 : Int)).toNat = 2 from rfl] at hx138_0)
                    have HR138_0 := Aside0.mk hi138_0
                    have HC138_0 := Aside0.mk hl138_0
                    clear hi138_0 hl138_0
                    replace p138 := eq_true p138
                    replace q138 := eq_true q138
                    refine start_ (n := 17) (S := fun w' => w'.cell? ad136 = some (.slice A136_0 (rd_L2 x4_1 0).length c136_0) ∧ w'.cell? ⟨ad136.block, ad136.off + 1, none⟩ = some (.slice A137_0 (rd_L2 x4_1 1).length c137_0) ∧ w'.cell? ⟨ad136.block, ad136.off + 2, none⟩ = some (.slice A138_0 (rd_L2 x4_1 2).length c138_0)) (ds := []) q9_0 (by kernel_rfl) rfl rfl ⟨hx136_0, hx137_0, hx138_0⟩ (fun hHeld => ?_); refine with_tabW laws_FnCarrySave.tab24 laws_FnCarrySave.bits24 (fun HT_ HW_ => ?_)
                    generalize wc.drew = w73 at HO_4 HB HL136_0 HL137_0 HL138_0 HR136_0 HR137_0 HR138_0 hx136_0 hx137_0 hx138_0 hHeld ⊢
                    refine pure_ (i := 0) (N := some 122) (v := ?_) (a' := ?_) q9_1 rfl rfl (any_of HT_.out (by kernel_rfl)) (fun _ _ _ h => h) (Or.inl ⟨by rfl, ?_⟩) ?_ ?_; rotate_left
                    ·intro w'
                     go_simp; with_reducible rfl
                    rotate_left
                    ·simp only [Act.put, qa9, qb9, qc9, i64_w, i32_w]
                     rfl
                    refine pure_ (i := 1) (N := some 123) (v := ?_) (a' := ?_) q9_2 rfl rfl (any_of HT_.out (by kernel_rfl)) (fun _ _ _ h => h) (Or.inl ⟨by rfl, ?_⟩) ?_ ?_; rotate_left
                    ·intro w'
                     go_simp; with_reducible rfl
                    rotate_left
                    ·simp only [Act.put, qa9, qb9, qc9, i64_w, i32_w]
                     rfl
                    refine pure_ (i := 3) (N := some 125) (v := ?_) (a' := ?_) q9_3 rfl rfl (any_of HT_.out (by kernel_rfl)) (fun _ _ _ h => h) (Or.inl ⟨by rfl, ?_⟩) ?_ ?_; rotate_left
                    ·intro w'
                     go_simp; with_reducible rfl
                    rotate_left
                    ·simp only [Act.put, qa9, qb9, qc9, i64_w, i32_w]
                     rfl
                    refine pure_ (i := 4) (N := some 126) (v := ?_) (a' := ?_) q9_4 rfl rfl (any_of HT_.out (by kernel_rfl)) (fun _ _ _ h => h) (Or.inl ⟨by rfl, ?_⟩) ?_ ?_; rotate_left
                    ·intro w'
                     go_simp; with_reducible rfl
                    rotate_left
                    ·simp only [Act.put, qa9, qb9, qc9, i64_w, i32_w]
                     rfl
                    refine pure_ (i := 6) (N := some 128) (v := ?_) (a' := ?_) q9_5 rfl rfl (any_of HT_.out (by kernel_rfl)) (fun _ _ _ h => h) (Or.inl ⟨by rfl, ?_⟩) ?_ ?_; rotate_left
                    ·intro w'
                     go_simp; with_reducible rfl
                    rotate_left
                    ·simp only [Act.put, qa9, qb9, qc9, i64_w, i32_w]
                     rfl
                    refine pure_ (i := 7) (N := some 129) (v := ?_) (a' := ?_) q9_6 rfl rfl (any_of HT_.out (by kernel_rfl)) (fun _ _ _ h => h) (Or.inl ⟨by rfl, ?_⟩) ?_ ?_; rotate_left
                    ·intro w'
                     go_simp; with_reducible rfl
                    rotate_left
                    ·simp only [Act.put, qa9, qb9, qc9, i64_w, i32_w]
                     rfl
                    refine take_ (i := 2) (N := some 124) (v := ?_) (a' := ?_) q9_7 rfl rfl (take_ofW HT_.out HW_.out (by kernel_rfl)) (fun _ _ _ h => h) (Or.inl ⟨by rfl, ?_⟩) hHeld ?_ ?_; rotate_left
                    ·rintro w' ⟨s0, s1, s2⟩
                     go_simp; with_reducible rfl
                    rotate_left
                    ·simp only [Act.put, qa9, qb9, qc9, i64_w, i32_w]
                     rfl
                    refine take_ (i := 5) (N := some 127) (v := ?_) (a' := ?_) q9_8 rfl rfl (take_ofW HT_.out HW_.out (by kernel_rfl)) (fun _ _ _ h => h) (Or.inl ⟨by rfl, ?_⟩) hHeld ?_ ?_; rotate_left
                    ·rintro w' ⟨s0, s1, s2⟩
                     go_simp; with_reducible rfl
                    rotate_left
                    ·simp only [Act.put, qa9, qb9, qc9, i64_w, i32_w]
                     rfl
                    refine take_ (i := 8) (N := some 130) (v := ?_) (a' := ?_) q9_9 rfl rfl (take_ofW HT_.out HW_.out (by kernel_rfl)) (fun _ _ _ h => h) (Or.inl ⟨by rfl, ?_⟩) hHeld ?_ ?_; rotate_left
                    ·rintro w' ⟨s0, s1, s2⟩
                     go_simp; with_reducible rfl
                    rotate_left
                    ·simp only [Act.put, qa9, qb9, qc9, i64_w, i32_w]
                     rfl
                    refine one_ (i := 9) (N := some 131) q9_10 rfl rfl (one_of HT_.out (by kernel_rfl)) (by decide) (fun K hK => ?_)
                    refine goes_ Try.func43 (by kernel_rfl) rfl #[.slice A136_0 (rd_L2 x4_1 0).length c136_0, .slice A137_0 (rd_L2 x4_1 1).length c137_0, .slice A138_0 (rd_L2 x4_1 2).length c138_0] (by rfl) rfl rfl (by (try simp only [List.map_toArray, List.map_cons, List.map_nil]); first | done | rfl | (simp only [List.length_drop, List.length_take]; rfl)) ?_
                    with_reducible refine (impl_CarrySave.calls kj28 (fun k_ => (True ∧ some k_ ≠ (.slice (some ad136) x4_1.length co19 : Value).ownBlock)) _ _ (rd_L2 x4_1 0) (fun k_ => (True ∧ some k_ ≠ (.slice (some ad136) x4_1.length co19 : Value).ownBlock)) _ _ (rd_L2 x4_1 1) (fun k_ => (True ∧ some k_ ≠ (.slice (some ad136) x4_1.length co19 : Value).ownBlock)) _ _ (rd_L2 x4_1 2) t139 t142 true _ ?side1 ?side2 ?side3 A56.out).mono ?_
                    (case side1 => exact HL136_0.out)
                    (case side2 => exact HL137_0.out)
                    (case side3 => exact HL138_0.out)
                    rintro e w74 ⟨v140, v143, rfl, ho0, ho1, hb⟩
                    have HS0_ := (hb.cell (World.block_lt_of_cell? _ _ (hHeld.1))).trans (hHeld.1)
                    have HS1_ := (hb.cell (World.block_lt_of_cell? _ _ (hHeld.2.1))).trans (hHeld.2.1)
                    have HS2_ := (hb.cell (World.block_lt_of_cell? _ _ (hHeld.2.2))).trans (hHeld.2.2)
                    refine ⟨_, rfl, ?_⟩
                    have n0_ := Aside0.mk (Kd.N_mono (Kd.N_told (Kd.N_told (Kd.N_old (by (with_reducible repeat (first | apply Kd.N_alloc | apply Kd.N_drewN | apply Kd.N_drew)); exact HO_4.out) hb) (Kd.R_base ho0)) (Kd.R_base ho1)) (fun _ h_ => h_.1))
                    have n1_ := Aside0.mk (Kd.V_mono (Kd.V_told (Kd.V_told (Kd.V_old (by (with_reducible repeat (first | apply Kd.V_alloc | apply Kd.V_drewN | apply Kd.V_drew)); exact HL136_0.out) hb) (Kd.R_base ho0)) (Kd.R_base ho1)) (fun _ h_ => h_.1))
                    have n2_ := Aside0.mk (Kd.V_mono (Kd.V_told (Kd.V_told (Kd.V_old (by (with_reducible repeat (first | apply Kd.V_alloc | apply Kd.V_drewN | apply Kd.V_drew)); exact HL137_0.out) hb) (Kd.R_base ho0)) (Kd.R_base ho1)) (fun _ h_ => h_.1))
                    have n3_ := Aside0.mk (Kd.V_mono (Kd.V_told (Kd.V_told (Kd.V_old (by (with_reducible repeat (first | apply Kd.V_alloc | apply Kd.V_drewN | apply Kd.V_drew)); exact HL138_0.out) hb) (Kd.R_base ho0)) (Kd.R_base ho1)) (fun _ h_ => h_.1))
                    have n4_ := Aside0.mk (Kd.R_lower (Kd.R_mono (ok' := fun k_ => some k_ ≠ (v143 : Value).ownBlock) ho0 (fun _ hk_ => hk_.2)) (below_size (by repeat (first | (with_reducible first | exact HB.out | apply below_alloc | apply pw_below_drewN | apply below_drew1) | exact HB.out))))
                    have n5_ := Aside0.mk (Kd.R_lower (Kd.R_mono (ok' := fun k_ => some k_ ≠ (v140 : Value).ownBlock) ho1 (fun _ hk_ => hk_.2)) (below_size (by repeat (first | (with_reducible first | exact HB.out | apply below_alloc | apply pw_below_drewN | apply below_drew1) | exact HB.out))))
                    have n6_ := Aside0.mk (Kd.C_below (by repeat (first | (with_reducible exact HR136_0.out) | (with_reducible refine Kd.C_alloc ?_ _) | (with_reducible refine Kd.C_drewN ?_ _) | (with_reducible refine Kd.C_drew ?_) | exact HR136_0.out)) hb)
                    have n7_ := Aside0.mk (Kd.C_below (by repeat (first | (with_reducible exact HR137_0.out) | (with_reducible refine Kd.C_alloc ?_ _) | (with_reducible refine Kd.C_drewN ?_ _) | (with_reducible refine Kd.C_drew ?_) | exact HR137_0.out)) hb)
                    have n8_ := Aside0.mk (Kd.C_below (by repeat (first | (with_reducible exact HR138_0.out) | (with_reducible refine Kd.C_alloc ?_ _) | (with_reducible refine Kd.C_drewN ?_ _) | (with_reducible refine Kd.C_drew ?_) | exact HR138_0.out)) hb)
                    have n9_ := Aside0.mk (below_step (by repeat (first | (with_reducible first | exact HB.out | apply below_alloc | apply pw_below_drewN | apply below_drew1) | exact HB.out)) hb)
                    clear HO_4; clear HL136_0; clear HL137_0; clear HL138_0; clear HR136_0; clear HR137_0; clear HR138_0; clear HB
                    have HO_4 := n0_
                    have HL136_0 := n1_
                    have HL137_0 := n2_
                    have HL138_0 := n3_
                    have HO141 := n4_
                    have HO144 := n5_
                    have HR136_0 := n6_
                    have HR137_0 := n7_
                    have HR138_0 := n8_
                    have HB := n9_
                    clear n0_ n1_ n2_ n3_ n4_ n5_ n6_ n7_ n8_ n9_
                    (try clear hb)
                    (try clear hb2)
                    (try clear hk)
                    (try clear hi)
                    (try clear ho0)
                    (try clear ho1)
                    refine hK.out _ _ ⟨HS0_, HS1_, HS2_⟩ (fun hHeld => ?_)
                    clear hK K
                    refine norm_ (a' := ?_) ?_ ?_; rotate_left
                    ·show Act.put _ (some 131) _ = _
                     simp only [Act.put, qa9, qb9, qc9, i64_w, i32_w]
                     rfl
                    refine pure_ (i := 10) (N := some 121) (v := ?_) (a' := ?_) q9_11 rfl rfl (any_of HT_.out (by kernel_rfl)) (fun _ _ _ h => h) (Or.inl ⟨by rfl, ?_⟩) ?_ ?_; rotate_left
                    ·intro w'
                     go_simp; with_reducible rfl
                    rotate_left
                    ·simp only [Act.put, qa9, qb9, qc9, i64_w, i32_w]
                     rfl
                    refine pure_ (i := 11) (N := some 132) (v := ?_) (a' := ?_) q9_12 rfl rfl (any_of HT_.out (by kernel_rfl)) (fun _ _ _ h => h) (Or.inl ⟨by rfl, ?_⟩) ?_ ?_; rotate_left
                    ·intro w'
                     go_simp; with_reducible rfl
                    rotate_left
                    ·simp only [Act.put, qa9, qb9, qc9, i64_w, i32_w]
                     rfl
                    refine pure_ (i := 12) (N := some 133) (v := ?_) (a' := ?_) q9_13 rfl rfl (any_of HT_.out (by kernel_rfl)) (fun _ _ _ h => h) (Or.inl ⟨by rfl, ?_⟩) ?_ ?_; rotate_left
                    ·intro w'
                     go_simp; with_reducible rfl
                    rotate_left
                    ·simp only [Act.put, qa9, qb9, qc9, i64_w, i32_w]
                     rfl
                    refine pure_ (i := 13) (N := some 134) (v := ?_) (a' := ?_) q9_14 rfl rfl (any_of HT_.out (by kernel_rfl)) (fun _ _ _ h => h) (Or.inl ⟨by rfl, ?_⟩) ?_ ?_; rotate_left
                    ·intro w'
                     go_simp; with_reducible rfl
                    rotate_left
                    ·simp only [Act.put, qa9, qb9, qc9, i64_w, i32_w]
                     rfl
                    refine pure_ (i := 14) (N := some 17) (v := ?_) (a' := ?_) q9_15 rfl rfl (any_of HT_.out (by kernel_rfl)) (fun _ _ _ h => h) (Or.inl ⟨by rfl, ?_⟩) ?_ ?_; rotate_left
                    ·intro w'
                     go_simp; with_reducible rfl
                    rotate_left
                    ·simp only [Act.put, qa9, qb9, qc9, i64_w, i32_w]
                     rfl
                    refine pure_ (i := 15) (N := some 18) (v := ?_) (a' := ?_) q9_16 rfl rfl (any_of HT_.out (by kernel_rfl)) (fun _ _ _ h => h) (Or.inl ⟨by rfl, ?_⟩) ?_ ?_; rotate_left
                    ·intro w'
                     go_simp; with_reducible rfl
                    rotate_left
                    ·simp only [Act.put, qa9, qb9, qc9, i64_w, i32_w]
                     rfl
                    refine pure_ (i := 16) (N := some 19) (v := ?_) (a' := ?_) q9_17 rfl rfl (any_of HT_.out (by kernel_rfl)) (fun _ _ _ h => h) (Or.inl ⟨by rfl, ?_⟩) ?_ ?_; rotate_left
                    ·intro w'
                     go_simp; with_reducible rfl
                    rotate_left
                    ·simp only [Act.put, qa9, qb9, qc9, i64_w, i32_w]
                     rfl
                    refine done_ (done_of HT_.out (by kernel_rfl)) ?_
                    try go_wp2
                    have n0_ := Aside0.mk (Kd.N_drew HO_4.out)
                    have n1_ := Aside0.mk (Kd.V_drew HL136_0.out)
                    have n2_ := Aside0.mk (Kd.V_drew HL137_0.out)
                    have n3_ := Aside0.mk (Kd.V_drew HL138_0.out)
                    have n4_ := Aside0.mk (Kd.R_drew HO141.out)
                    have n5_ := Aside0.mk (Kd.R_drew HO144.out)
                    have n6_ := Aside0.mk (Kd.C_drew HR136_0.out)
                    have n7_ := Aside0.mk (Kd.C_drew HR137_0.out)
                    have n8_ := Aside0.mk (Kd.C_drew HR138_0.out)
                    have n9_ := Aside0.mk (below_drew1 HB.out)
                    clear HO_4; clear HL136_0; clear HL137_0; clear HL138_0; clear HO141; clear HO144; clear HR136_0; clear HR137_0; clear HR138_0; clear HB
                    have HO_4 := n0_
                    have HL136_0 := n1_
                    have HL137_0 := n2_
                    have HL138_0 := n3_
                    have HO141 := n4_
                    have HO144 := n5_
                    have HR136_0 := n6_
                    have HR137_0 := n7_
                    have HR138_0 := n8_
                    have HB := n9_
                    clear n0_ n1_ n2_ n3_ n4_ n5_ n6_ n7_ n8_ n9_
                    obtain ⟨Ao76, co76, eo76⟩ := Kd.R_slice HO141.out
                    (first | subst eo76 | (injection eo76 with f1_ f2_ f3_; have f4_ := f1_.symm; have f5_ := f3_.symm; clear f1_ f2_ f3_; subst f4_; subst f5_))
                    obtain ⟨Ao77, co77, eo77⟩ := Kd.R_slice HO144.out
                    (first | subst eo77 | (injection eo77 with f1_ f2_ f3_; have f4_ := f1_.symm; have f5_ := f3_.symm; clear f1_ f2_ f3_; subst f4_; subst f5_))
                    have p146 : 0 ≤ (0 : Int) := (by omega)
                    have q146 : 0 < (t142.length : Int) := of_decide_eq_true (by assumption)
                    obtain ⟨ad146, e146, hx146_0⟩ := Kd.at_int (Kd.R_reads' HO144.out).2.2 0 p146 q146
                    cases e146
                    have qi146 : (0 < t142.length) = True := eq_true (by omega)
                    (try rw [show ((0 : Int)).toNat = 0 from rfl] at hx146_0)
                    (try rw [Addr.add_zero'] at hx146_0)
                    replace p146 := eq_true p146
                    replace q146 := eq_true q146
                    refine start_ (n := 45) (S := fun w' => w'.cell? ad146 = some (.int .i64 (rd t142 0))) (ds := []) q9_18 (by kernel_rfl) rfl rfl (hx146_0) (fun hHeld => ?_); refine with_tabW laws_FnCarrySave.tab25 laws_FnCarrySave.bits25 (fun HT_ HW_ => ?_)
                    generalize w74.drew = w75 at HO_4 HL136_0 HL137_0 HL138_0 HO141 HO144 HR136_0 HR137_0 HR138_0 HB hx146_0 hHeld ⊢
                    refine pure_ (i := 0) (N := some 135) (v := ?_) (a' := ?_) q9_19 rfl rfl (any_of HT_.out (by kernel_rfl)) (fun _ _ _ h => h) (Or.inl ⟨by rfl, ?_⟩) ?_ ?_; rotate_left
                    ·intro w'
                     go_simp; with_reducible rfl
                    rotate_left
                    ·simp only [Act.put, qa9, qb9, qc9, i64_w, i32_w]
                     rfl
                    refine pure_ (i := 1) (N := some 136) (v := ?_) (a' := ?_) q9_20 rfl rfl (any_of HT_.out (by kernel_rfl)) (fun _ _ _ h => h) (Or.inl ⟨by rfl, ?_⟩) ?_ ?_; rotate_left
                    ·intro w'
                     go_simp; with_reducible rfl
                    rotate_left
                    ·simp only [Act.put, qa9, qb9, qc9, i64_w, i32_w]
                     rfl
                    refine pure_ (i := 2) (N := some 137) (v := ?_) (a' := ?_) q9_21 rfl rfl (any_of HT_.out (by kernel_rfl)) (fun _ _ _ h => h) (Or.inl ⟨by rfl, ?_⟩) ?_ ?_; rotate_left
                    ·intro w'
                     go_simp; with_reducible rfl
                    rotate_left
                    ·simp only [Act.put, qa9, qb9, qc9, i64_w, i32_w]
                     rfl
                    refine pure_ (i := 3) (N := some 138) (v := ?_) (a' := ?_) q9_22 rfl rfl (any_of HT_.out (by kernel_rfl)) (fun _ _ _ h => h) (Or.inl ⟨by rfl, ?_⟩) ?_ ?_; rotate_left
                    ·intro w'
                     go_simp; with_reducible rfl
                    rotate_left
                    ·simp only [Act.put, qa9, qb9, qc9, i64_w, i32_w]
                     rfl
                    refine pure_ (i := 4) (N := some 139) (v := ?_) (a' := ?_) q9_23 rfl rfl (any_of HT_.out (by kernel_rfl)) (fun _ _ _ h => h) (Or.inl ⟨by rfl, ?_⟩) ?_ ?_; rotate_left
                    ·intro w'
                     go_simp; with_reducible rfl
                    rotate_left
                    ·simp only [Act.put, qa9, qb9, qc9, i64_w, i32_w]
                     rfl
                    refine pure_ (i := 5) (N := some 140) (v := ?_) (a' := ?_) q9_24 rfl rfl (any_of HT_.out (by kernel_rfl)) (fun _ _ _ h => h) (Or.inl ⟨by rfl, ?_⟩) ?_ ?_; rotate_left
                    ·intro w'
                     go_simp; with_reducible rfl
                    rotate_left
                    ·simp only [Act.put, qa9, qb9, qc9, i64_w, i32_w]
                     rfl
                    refine pure_ (i := 6) (N := some 141) (v := ?_) (a' := ?_) q9_25 rfl rfl (any_of HT_.out (by kernel_rfl)) (fun _ _ _ h => h) (Or.inl ⟨by rfl, ?_⟩) ?_ ?_; rotate_left
                    ·intro w'
                     go_simp; with_reducible rfl
                    rotate_left
                    ·simp only [Act.put, qa9, qb9, qc9, i64_w, i32_w]
                     rfl
                    refine pure_ (i := 7) (N := some 142) (v := ?_) (a' := ?_) q9_26 rfl rfl (any_of HT_.out (by kernel_rfl)) (fun _ _ _ h => h) (Or.inl ⟨by rfl, ?_⟩) ?_ ?_; rotate_left
                    ·intro w'
                     go_simp; with_reducible rfl
                    rotate_left
                    ·simp only [Act.put, qa9, qb9, qc9, i64_w, i32_w]
                     rfl
                    refine pure_ (i := 8) (N := some 143) (v := ?_) (a' := ?_) q9_27 rfl rfl (any_of HT_.out (by kernel_rfl)) (fun _ _ _ h => h) (Or.inl ⟨by rfl, ?_⟩) ?_ ?_; rotate_left
                    ·intro w'
                     go_simp; with_reducible rfl
                    rotate_left
                    ·simp only [Act.put, qa9, qb9, qc9, i64_w, i32_w]
                     rfl
                    refine pure_ (i := 9) (N := some 144) (v := ?_) (a' := ?_) q9_28 rfl rfl (any_of HT_.out (by kernel_rfl)) (fun _ _ _ h => h) (Or.inl ⟨by rfl, ?_⟩) ?_ ?_; rotate_left
                    ·intro w'
                     go_simp; with_reducible rfl
                    rotate_left
                    ·simp only [Act.put, qa9, qb9, qc9, i64_w, i32_w]
                     rfl
                    refine pure_ (i := 10) (N := some 145) (v := ?_) (a' := ?_) q9_29 rfl rfl (any_of HT_.out (by kernel_rfl)) (fun _ _ _ h => h) (Or.inl ⟨by rfl, ?_⟩) ?_ ?_; rotate_left
                    ·intro w'
                     go_simp; with_reducible rfl
                    rotate_left
                    ·simp only [Act.put, qa9, qb9, qc9, i64_w, i32_w]
                     rfl
                    refine pure_ (i := 11) (N := some 146) (v := ?_) (a' := ?_) q9_30 rfl rfl (any_of HT_.out (by kernel_rfl)) (fun _ _ _ h => h) (Or.inl ⟨by rfl, ?_⟩) ?_ ?_; rotate_left
                    ·intro w'
                     go_simp; with_reducible rfl
                    rotate_left
                    ·simp only [Act.put, qa9, qb9, qc9, i64_w, i32_w]
                     rfl
                    refine pure_ (i := 12) (N := some 147) (v := ?_) (a' := ?_) q9_31 rfl rfl (any_of HT_.out (by kernel_rfl)) (fun _ _ _ h => h) (Or.inl ⟨by rfl, ?_⟩) ?_ ?_; rotate_left
                    ·intro w'
                     go_simp; with_reducible rfl
                    rotate_left
                    ·simp only [Act.put, qa9, qb9, qc9, i64_w, i32_w]
                     rfl
                    refine pure_ (i := 13) (N := some 148) (v := ?_) (a' := ?_) q9_32 rfl rfl (any_of HT_.out (by kernel_rfl)) (fun _ _ _ h => h) (Or.inl ⟨by rfl, ?_⟩) ?_ ?_; rotate_left
                    ·intro w'
                     go_simp; with_reducible rfl
                    rotate_left
                    ·simp only [Act.put, qa9, qb9, qc9, i64_w, i32_w]
                     rfl
                    refine pure_ (i := 14) (N := some 149) (v := ?_) (a' := ?_) q9_33 rfl rfl (any_of HT_.out (by kernel_rfl)) (fun _ _ _ h => h) (Or.inl ⟨by rfl, ?_⟩) ?_ ?_; rotate_left
                    ·intro w'
                     go_simp; with_reducible rfl
                    rotate_left
                    ·simp only [Act.put, qa9, qb9, qc9, i64_w, i32_w]
                     rfl
                    refine pure_ (i := 15) (N := some 150) (v := ?_) (a' := ?_) q9_34 rfl rfl (any_of HT_.out (by kernel_rfl)) (fun _ _ _ h => h) (Or.inl ⟨by rfl, ?_⟩) ?_ ?_; rotate_left
                    ·intro w'
                     go_simp; with_reducible rfl
                    rotate_left
                    ·simp only [Act.put, qa9, qb9, qc9, i64_w, i32_w]
                     rfl
                    refine take_ (i := 16) (N := some 151) (v := ?_) (a' := ?_) q9_35 rfl rfl (take_ofW HT_.out HW_.out (by kernel_rfl)) (fun _ _ _ h => h) (Or.inl ⟨by rfl, ?_⟩) hHeld ?_ ?_; rotate_left
                    ·intro w' s0
                     go_simp; with_reducible rfl
                    rotate_left
                    ·simp only [Act.put, qa9, qb9, qc9, i64_w, i32_w]
                     rfl
                    refine pure_ (i := 17) (N := some 152) (v := ?_) (a' := ?_) q9_36 rfl rfl (any_of HT_.out (by kernel_rfl)) (fun _ _ _ h => h) (Or.inl ⟨by rfl, ?_⟩) ?_ ?_; rotate_left
                    ·intro w'
                     go_simp; with_reducible rfl
                    rotate_left
                    ·simp only [Act.put, qa9, qb9, qc9, i64_w, i32_w]
                     rfl
                    refine pure_ (i := 18) (N := some 153) (v := ?_) (a' := ?_) q9_37 rfl rfl (any_of HT_.out (by kernel_rfl)) (fun _ _ _ h => h) (Or.inl ⟨by rfl, ?_⟩) ?_ ?_; rotate_left
                    ·intro w'
                     go_simp; with_reducible rfl
                    rotate_left
                    ·simp only [Act.put, qa9, qb9, qc9, i64_w, i32_w]
                     rfl
                    refine pure_ (i := 19) (N := some 154) (v := ?_) (a' := ?_) q9_38 rfl rfl (any_of HT_.out (by kernel_rfl)) (fun _ _ _ h => h) (Or.inl ⟨by rfl, ?_⟩) ?_ ?_; rotate_left
                    ·intro w'
                     go_simp; with_reducible rfl
                    rotate_left
                    ·simp only [Act.put, qa9, qb9, qc9, i64_w, i32_w]
                     rfl
                    refine pure_ (i := 20) (N := some 155) (v := undef) (a' := ?_) q9_39 rfl rfl (any_of HT_.out (by kernel_rfl)) (fun _ _ _ h => h) (Or.inr ⟨by rfl, rfl⟩) ?_ ?_; rotate_left
                    ·simp only [Act.put, qa9, qb9, qc9, i64_w, i32_w]
                     rfl
                    refine pure_ (i := 21) (N := some 156) (v := undef) (a' := ?_) q9_64 rfl rfl (any_of HT_.out (by kernel_rfl)) (fun _ _ _ h => h) (Or.inr ⟨by rfl, rfl⟩) ?_ ?_; rotate_left
                    ·simp only [Act.put, qa9, qb9, qc9, i64_w, i32_w]
                     rfl
                    refine pure_ (i := 22) (N := some 157) (v := undef) (a' := ?_) q9_65 rfl rfl (any_of HT_.out (by kernel_rfl)) (fun _ _ _ h => h) (Or.inr ⟨by rfl, rfl⟩) ?_ ?_; rotate_left
                    ·simp only [Act.put, qa9, qb9, qc9, i64_w, i32_w]
                     rfl
                    refine pure_ (i := 23) (N := some 158) (v := undef) (a' := ?_) q9_66 rfl rfl (any_of HT_.out (by kernel_rfl)) (fun _ _ _ h => h) (Or.inr ⟨by rfl, rfl⟩) ?_ ?_; rotate_left
                    ·simp only [Act.put, qa9, qb9, qc9, i64_w, i32_w]
                     rfl
                    refine pure_ (i := 24) (N := some 159) (v := undef) (a' := ?_) q9_67 rfl rfl (any_of HT_.out (by kernel_rfl)) (fun _ _ _ h => h) (Or.inr ⟨by rfl, rfl⟩) ?_ ?_; rotate_left
                    ·simp only [Act.put, qa9, qb9, qc9, i64_w, i32_w]
                     rfl
                    refine pure_ (i := 25) (N := some 160) (v := undef) (a' := ?_) q9_68 rfl rfl (any_of HT_.out (by kernel_rfl)) (fun _ _ _ h => h) (Or.inr ⟨by rfl, rfl⟩) ?_ ?_; rotate_left
                    ·simp only [Act.put, qa9, qb9, qc9, i64_w, i32_w]
                     rfl
                    refine pure_ (i := 26) (N := some 161) (v := undef) (a' := ?_) q9_69 rfl rfl (any_of HT_.out (by kernel_rfl)) (fun _ _ _ h => h) (Or.inr ⟨by rfl, rfl⟩) ?_ ?_; rotate_left
                    ·simp only [Act.put, qa9, qb9, qc9, i64_w, i32_w]
                     rfl
                    refine pure_ (i := 27) (N := some 162) (v := undef) (a' := ?_) q9_70 rfl rfl (any_of HT_.out (by kernel_rfl)) (fun _ _ _ h => h) (Or.inr ⟨by rfl, rfl⟩) ?_ ?_; rotate_left
                    ·simp only [Act.put, qa9, qb9, qc9, i64_w, i32_w]
                     rfl
                    refine pure_ (i := 28) (N := some 163) (v := undef) (a' := ?_) q9_71 rfl rfl (any_of HT_.out (by kernel_rfl)) (fun _ _ _ h => h) (Or.inr ⟨by rfl, rfl⟩) ?_ ?_; rotate_left
                    ·simp only [Act.put, qa9, qb9, qc9, i64_w, i32_w]
                     rfl
                    refine pure_ (i := 29) (N := some 164) (v := undef) (a' := ?_) q9_72 rfl rfl (any_of HT_.out (by kernel_rfl)) (fun _ _ _ h => h) (Or.inr ⟨by rfl, rfl⟩) ?_ ?_; rotate_left
                    ·simp only [Act.put, qa9, qb9, qc9, i64_w, i32_w]
                     rfl
                    refine pure_ (i := 30) (N := some 165) (v := undef) (a' := ?_) q9_73 rfl rfl (any_of HT_.out (by kernel_rfl)) (fun _ _ _ h => h) (Or.inr ⟨by rfl, rfl⟩) ?_ ?_; rotate_left
                    ·simp only [Act.put, qa9, qb9, qc9, i64_w, i32_w]
                     rfl
                    refine pure_ (i := 31) (N := some 166) (v := undef) (a' := ?_) q9_74 rfl rfl (any_of HT_.out (by kernel_rfl)) (fun _ _ _ h => h) (Or.inr ⟨by rfl, rfl⟩) ?_ ?_; rotate_left
                    ·simp only [Act.put, qa9, qb9, qc9, i64_w, i32_w]
                     rfl
                    refine pure_ (i := 32) (N := some 167) (v := undef) (a' := ?_) q9_75 rfl rfl (any_of HT_.out (by kernel_rfl)) (fun _ _ _ h => h) (Or.inr ⟨by rfl, rfl⟩) ?_ ?_; rotate_left
                    ·simp only [Act.put, qa9, qb9, qc9, i64_w, i32_w]
                     rfl
                    refine pure_ (i := 33) (N := some 168) (v := undef) (a' := ?_) q9_76 rfl rfl (any_of HT_.out (by kernel_rfl)) (fun _ _ _ h => h) (Or.inr ⟨by rfl, rfl⟩) ?_ ?_; rotate_left
                    ·simp only [Act.put, qa9, qb9, qc9, i64_w, i32_w]
                     rfl
                    refine pure_ (i := 34) (N := some 169) (v := undef) (a' := ?_) q9_77 rfl rfl (any_of HT_.out (by kernel_rfl)) (fun _ _ _ h => h) (Or.inr ⟨by rfl, rfl⟩) ?_ ?_; rotate_left
                    ·simp only [Act.put, qa9, qb9, qc9, i64_w, i32_w]
                     rfl
                    refine pure_ (i := 35) (N := some 170) (v := undef) (a' := ?_) q9_78 rfl rfl (any_of HT_.out (by kernel_rfl)) (fun _ _ _ h => h) (Or.inr ⟨by rfl, rfl⟩) ?_ ?_; rotate_left
                    ·simp only [Act.put, qa9, qb9, qc9, i64_w, i32_w]
                     rfl
                    refine pure_ (i := 36) (N := some 171) (v := undef) (a' := ?_) q9_79 rfl rfl (any_of HT_.out (by kernel_rfl)) (fun _ _ _ h => h) (Or.inr ⟨by rfl, rfl⟩) ?_ ?_; rotate_left
                    ·simp only [Act.put, qa9, qb9, qc9, i64_w, i32_w]
                     rfl
                    refine pure_ (i := 37) (N := some 172) (v := undef) (a' := ?_) q9_80 rfl rfl (any_of HT_.out (by kernel_rfl)) (fun _ _ _ h => h) (Or.inr ⟨by rfl, rfl⟩) ?_ ?_; rotate_left
                    ·simp only [Act.put, qa9, qb9, qc9, i64_w, i32_w]
                     rfl
                    refine pure_ (i := 38) (N := some 173) (v := undef) (a' := ?_) q9_81 rfl rfl (any_of HT_.out (by kernel_rfl)) (fun _ _ _ h => h) (Or.inr ⟨by rfl, rfl⟩) ?_ ?_; rotate_left
                    ·simp only [Act.put, qa9, qb9, qc9, i64_w, i32_w]
                     rfl
                    refine pure_ (i := 39) (N := some 174) (v := undef) (a' := ?_) q9_82 rfl rfl (any_of HT_.out (by kernel_rfl)) (fun _ _ _ h => h) (Or.inr ⟨by rfl, rfl⟩) ?_ ?_; rotate_left
                    ·simp only [Act.put, qa9, qb9, qc9, i64_w, i32_w]
                     rfl
                    refine pure_ (i := 40) (N := some 175) (v := undef) (a' := ?_) q9_59 rfl rfl (any_of HT_.out (by kernel_rfl)) (fun _ _ _ h => h) (Or.inr ⟨by rfl, rfl⟩) ?_ ?_; rotate_left
                    ·simp only [Act.put, qa9, qb9, qc9, i64_w, i32_w]
                     rfl
                    refine pure_ (i := 41) (N := some 176) (v := undef) (a' := ?_) q9_60 rfl rfl (any_of HT_.out (by kernel_rfl)) (fun _ _ _ h => h) (Or.inr ⟨by rfl, rfl⟩) ?_ ?_; rotate_left
                    ·simp only [Act.put, qa9, qb9, qc9, i64_w, i32_w]
                     rfl
                    refine pure_ (i := 42) (N := some 177) (v := undef) (a' := ?_) q9_61 rfl rfl (any_of HT_.out (by kernel_rfl)) (fun _ _ _ h => h) (Or.inr ⟨by rfl, rfl⟩) ?_ ?_; rotate_left
                    ·simp only [Act.put, qa9, qb9, qc9, i64_w, i32_w]
                     rfl
                    refine pure_ (i := 43) (N := some 178) (v := ?_) (a' := ?_) q9_62 rfl rfl (any_of HT_.out (by kernel_rfl)) (fun _ _ _ h => h) (Or.inl ⟨by rfl, ?_⟩) ?_ ?_; rotate_left
                    ·intro w'
                     go_simp; with_reducible rfl
                    rotate_left
                    ·simp only [Act.put, qa9, qb9, qc9, i64_w, i32_w]
                     rfl
                    refine pure_ (i := 44) (N := some 2) (v := ?_) (a' := ?_) q9_63 rfl rfl (any_of HT_.out (by kernel_rfl)) (fun _ _ _ h => h) (Or.inl ⟨by rfl, ?_⟩) ?_ ?_; rotate_left
                    ·intro w'
                     go_simp; with_reducible rfl
                    rotate_left
                    ·simp only [Act.put, qa9, qb9, qc9, i64_w, i32_w]
                     rfl
                    refine done_ (done_of HT_.out (by kernel_rfl)) ?_
                    try go_wp2
                    go_ret
                    exact ⟨by first | rfl | (simp [errW_none, errW_some] <;> rfl) | (simp [*, errW_none, errW_some] <;> rfl), by repeat (first | (with_reducible first | exact HB.out | apply below_alloc | apply pw_below_drewN | apply below_drew1) | exact HB.out)⟩
                  ·rw [if_neg c60] at H
                   exact absurd H (by simp)
                 ·rw [if_neg c59] at H
                  have c59b0 : ((t142.length : Int) == (wrap64 (1 + (Int.tmod t101 12)))) = false := beq_eq_false_iff_ne.mpr c59
                  have c59b1 : ((t142.length : Int) != (wrap64 (1 + (Int.tmod t101 12)))) = true := bne_iff_ne.mpr c59
                  obtain rfl := Option.some.inj H
                  try go_wp2
                  have n0_ := Aside0.mk (Kd.N_drew HO_4.out)
                  have n1_ := Aside0.mk (below_drew1 HB.out)
                  clear HO_4; clear HB
                  have HO_4 := n0_
                  have HB := n1_
                  clear n0_ n1_
                  have p136 : 0 ≤ (0 : Int) := (by omega)
                  have q136 : 0 < (x4_1.length : Int) := of_decide_eq_true (by assumption)
                  obtain ⟨ad136, A136_0, c136_0, e136, hx136_0, hl136_0, hi136_0⟩ := at_L2 (Kd.N_reads' HO_4.out).2.2 0 p136 q136
                  cases e136
                  obtain ⟨ce136, hce136, hMe136, hcc136⟩ := Kd.N_get HO_4.out [] 0 p136 (by first | exact q136 | exact of_decide_eq_true (by assumption) | (have e_ := (Kd.N_reads' HO_4.out).1; omega))
                  obtain ⟨ua136_0, uc136_0, rfl, ul136_0, ge136_0⟩ := Kd.FK_slice_open hMe136
                  have hv136_0 := hcc136 0 _ rfl
                  rw [Nat.add_zero, show ((Kd.slice 3 (Kd.int .i64))).sz = 1 from rfl, Nat.mul_one] at hv136_0
                  replace hv136_0 := Option.some.inj (hv136_0.symm.trans hx136_0)
                  injection hv136_0 with hva_ hvn_ hvc_
                  rw [hva_] at ge136_0
                  rw [hvc_] at ul136_0
                  have HL136_0 := Aside0.mk (show Kd.V (Kd.int .i64) 3 _ w.heap.size _ _ (rd_L2 x4_1 0) from Kd.V_mk ul136_0 ge136_0)
                  clear hva_ hvn_ hvc_ ge136_0 ul136_0
                  clear hcc136 hce136
                  have qi136 : (0 < x4_1.length) = True := eq_true (by omega)
                  (try rw [show ((0 : Int)).toNat = 0 from rfl] at hx136_0)
                  (try rw [Addr.add_zero'] at hx136_0)
                  have HR136_0 := Aside0.mk hi136_0
                  have HC136_0 := Aside0.mk hl136_0
                  clear hi136_0 hl136_0
                  replace p136 := eq_true p136
                  replace q136 := eq_true q136
                  have p137 : 0 ≤ (1 : Int) := (by omega)
                  have q137 : 1 < (x4_1.length : Int) := of_decide_eq_true (by assumption)
                  obtain ⟨ad137, A137_0, c137_0, e137, hx137_0, hl137_0, hi137_0⟩ := at_L2 (Kd.N_reads' HO_4.out).2.2 1 p137 q137
                  obtain rfl : ad136 = ad137 := (by injection e137)
                  obtain ⟨ce137, hce137, hMe137, hcc137⟩ := Kd.N_get HO_4.out [] 1 p137 (by first | exact q137 | exact of_decide_eq_true (by assumption) | (have e_ := (Kd.N_reads' HO_4.out).1; omega))
                  obtain ⟨ua137_0, uc137_0, rfl, ul137_0, ge137_0⟩ := Kd.FK_slice_open hMe137
                  have hv137_0 := hcc137 0 _ rfl
                  rw [Nat.add_zero, show ((Kd.slice 3 (Kd.int .i64))).sz = 1 from rfl, Nat.mul_one] at hv137_0
                  replace hv137_0 := Option.some.inj (hv137_0.symm.trans hx137_0)
                  injection hv137_0 with hva_ hvn_ hvc_
                  rw [hva_] at ge137_0
                  rw [hvc_] at ul137_0
                  have HL137_0 := Aside0.mk (show Kd.V (Kd.int .i64) 3 _ w.heap.size _ _ (rd_L2 x4_1 1) from Kd.V_mk ul137_0 ge137_0)
                  clear hva_ hvn_ hvc_ ge137_0 ul137_0
                  clear hcc137 hce137
                  (try simp only [show (1 : Int).toNat = 1 from rfl, Nat.reduceMul, Nat.reduceEqDiff, Go.Addr.add, ↓reduceIte] at hx137_0)
                  have qi137 : (1 < x4_1.length) = True := eq_true (by omega)
                  (try rw [show ((1 : Int)).toNat = 1 from rfl] at hx137_0)
                  have HR137_0 := Aside0.mk hi137_0
                  have HC137_0 := Aside0.mk hl137_0
                  clear hi137_0 hl137_0
                  replace p137 := eq_true p137
                  replace q137 := eq_true q137
                  have p138 : 0 ≤ (2 : Int) := (by omega)
                  have q138 : 2 < (x4_1.length : Int) := of_decide_eq_true (by assumption)
                  obtain ⟨ad138, A138_0, c138_0, e138, hx138_0, hl138_0, hi138_0⟩ := at_L2 (Kd.N_reads' HO_4.out).2.2 2 p138 q138
                  obtain rfl : ad136 = ad138 := (by injection e138)
                  obtain ⟨ce138, hce138, hMe138, hcc138⟩ := Kd.N_get HO_4.out [] 2 p138 (by first | exact q138 | exact of_decide_eq_true (by assumption) | (have e_ := (Kd.N_reads' HO_4.out).1; omega))
                  obtain ⟨ua138_0, uc138_0, rfl, ul138_0, ge138_0⟩ := Kd.FK_slice_open hMe138
                  have hv138_0 := hcc138 0 _ rfl
                  rw [Nat.add_zero, show ((Kd.slice 3 (Kd.int .i64))).sz = 1 from rfl, Nat.mul_one] at hv138_0
                  replace hv138_0 := Option.some.inj (hv138_0.symm.trans hx138_0)
                  injection hv138_0 with hva_ hvn_ hvc_
                  rw [hva_] at ge138_0
                  rw [hvc_] at ul138_0
                  have HL138_0 := Aside0.mk (show Kd.V (Kd.int .i64) 3 _ w.heap.size _ _ (rd_L2 x4_1 2) from Kd.V_mk ul138_0 ge138_0)
                  clear hva_ hvn_ hvc_ ge138_0 ul138_0
                  clear hcc138 hce138
                  (try simp only [show (2 : Int).toNat = 2 from rfl, Nat.reduceMul, Nat.reduceEqDiff, Go.Addr.add, ↓reduceIte] at hx138_0)
                  have qi138 : (2 < x4_1.length) = True := eq_true (by omega)
                  (try rw [show ((2 : Int)).toNat = 2 from rfl] at hx138_0)
                  have HR138_0 := Aside0.mk hi138_0
                  have HC138_0 := Aside0.mk hl138_0
                  clear hi138_0 hl138_0
                  replace p138 := eq_true p138
                  replace q138 := eq_true q138
                  refine start_ (n := 17) (S := fun w' => w'.cell? ad136 = some (.slice A136_0 (rd_L2 x4_1 0).length c136_0) ∧ w'.cell? ⟨ad136.block, ad136.off + 1, none⟩ = some (.slice A137_0 (rd_L2 x4_1 1).length c137_0) ∧ w'.cell? ⟨ad136.block, ad136.off + 2, none⟩ = some (.slice A138_0 (rd_L2 x4_1 2).length c138_0)) (ds := []) q9_0 (by kernel_rfl) rfl rfl ⟨hx136_0, hx137_0, hx138_0⟩ (fun hHeld => ?_); refine with_tabW laws_FnCarrySave.tab24 laws_FnCarrySave.bits24 (fun HT_ HW_ => ?_)
                  generalize wc.drew = w78 at HO_4 HB HL136_0 HL137_0 HL138_0 HR136_0 HR137_0 HR138_0 hx136_0 hx137_0 hx138_0 hHeld ⊢
                  refine pure_ (i := 0) (N := some 122) (v := ?_) (a' := ?_) q9_1 rfl rfl (any_of HT_.out (by kernel_rfl)) (fun _ _ _ h => h) (Or.inl ⟨by rfl, ?_⟩) ?_ ?_; rotate_left
                  ·intro w'
                   go_simp; with_reducible rfl
                  rotate_left
                  ·simp only [Act.put, qa9, qb9, qc9, i64_w, i32_w]
                   rfl
                  refine pure_ (i := 1) (N := some 123) (v := ?_) (a' := ?_) q9_2 rfl rfl (any_of HT_.out (by kernel_rfl)) (fun _ _ _ h => h) (Or.inl ⟨by rfl, ?_⟩) ?_ ?_; rotate_left
                  ·intro w'
                   go_simp; with_reducible rfl
                  rotate_left
                  ·simp only [Act.put, qa9, qb9, qc9, i64_w, i32_w]
                   rfl
                  refine pure_ (i := 3) (N := some 125) (v := ?_) (a' := ?_) q9_3 rfl rfl (any_of HT_.out (by kernel_rfl)) (fun _ _ _ h => h) (Or.inl ⟨by rfl, ?_⟩) ?_ ?_; rotate_left
                  ·intro w'
                   go_simp; with_reducible rfl
                  rotate_left
                  ·simp only [Act.put, qa9, qb9, qc9, i64_w, i32_w]
                   rfl
                  refine pure_ (i := 4) (N := some 126) (v := ?_) (a' := ?_) q9_4 rfl rfl (any_of HT_.out (by kernel_rfl)) (fun _ _ _ h => h) (Or.inl ⟨by rfl, ?_⟩) ?_ ?_; rotate_left
                  ·intro w'
                   go_simp; with_reducible rfl
                  rotate_left
                  ·simp only [Act.put, qa9, qb9, qc9, i64_w, i32_w]
                   rfl
                  refine pure_ (i := 6) (N := some 128) (v := ?_) (a' := ?_) q9_5 rfl rfl (any_of HT_.out (by kernel_rfl)) (fun _ _ _ h => h) (Or.inl ⟨by rfl, ?_⟩) ?_ ?_; rotate_left
                  ·intro w'
                   go_simp; with_reducible rfl
                  rotate_left
                  ·simp only [Act.put, qa9, qb9, qc9, i64_w, i32_w]
                   rfl
                  refine pure_ (i := 7) (N := some 129) (v := ?_) (a' := ?_) q9_6 rfl rfl (any_of HT_.out (by kernel_rfl)) (fun _ _ _ h => h) (Or.inl ⟨by rfl, ?_⟩) ?_ ?_; rotate_left
                  ·intro w'
                   go_simp; with_reducible rfl
                  rotate_left
                  ·simp only [Act.put, qa9, qb9, qc9, i64_w, i32_w]
                   rfl
                  refine take_ (i := 2) (N := some 124) (v := ?_) (a' := ?_) q9_7 rfl rfl (take_ofW HT_.out HW_.out (by kernel_rfl)) (fun _ _ _ h => h) (Or.inl ⟨by rfl, ?_⟩) hHeld ?_ ?_; rotate_left
                  ·rintro w' ⟨s0, s1, s2⟩
                   go_simp; with_reducible rfl
                  rotate_left
                  ·simp only [Act.put, qa9, qb9, qc9, i64_w, i32_w]
                   rfl
                  refine take_ (i := 5) (N := some 127) (v := ?_) (a' := ?_) q9_8 rfl rfl (take_ofW HT_.out HW_.out (by kernel_rfl)) (fun _ _ _ h => h) (Or.inl ⟨by rfl, ?_⟩) hHeld ?_ ?_; rotate_left
                  ·rintro w' ⟨s0, s1, s2⟩
                   go_simp; with_reducible rfl
                  rotate_left
                  ·simp only [Act.put, qa9, qb9, qc9, i64_w, i32_w]
                   rfl
                  refine take_ (i := 8) (N := some 130) (v := ?_) (a' := ?_) q9_9 rfl rfl (take_ofW HT_.out HW_.out (by kernel_rfl)) (fun _ _ _ h => h) (Or.inl ⟨by rfl, ?_⟩) hHeld ?_ ?_; rotate_left
                  ·rintro w' ⟨s0, s1, s2⟩
                   go_simp; with_reducible rfl
                  rotate_left
                  ·simp only [Act.put, qa9, qb9, qc9, i64_w, i32_w]
                   rfl
                  refine one_ (i := 9) (N := some 131) q9_10 rfl rfl (one_of HT_.out (by kernel_rfl)) (by decide) (fun K hK => ?_)
                  refine goes_ Try.func43 (by kernel_rfl) rfl #[.slice A136_0 (rd_L2 x4_1 0).length c136_0, .slice A137_0 (rd_L2 x4_1 1).length c137_0, .slice A138_0 (rd_L2 x4_1 2).length c138_0] (by rfl) rfl rfl (by (try simp only [List.map_toArray, List.map_cons, List.map_nil]); first | done | rfl | (simp only [List.length_drop, List.length_take]; rfl)) ?_
                  with_reducible refine (impl_CarrySave.calls kj28 (fun k_ => (True ∧ some k_ ≠ (.slice (some ad136) x4_1.length co19 : Value).ownBlock)) _ _ (rd_L2 x4_1 0) (fun k_ => (True ∧ some k_ ≠ (.slice (some ad136) x4_1.length co19 : Value).ownBlock)) _ _ (rd_L2 x4_1 1) (fun k_ => (True ∧ some k_ ≠ (.slice (some ad136) x4_1.length co19 : Value).ownBlock)) _ _ (rd_L2 x4_1 2) t139 t142 true _ ?side1 ?side2 ?side3 A56.out).mono ?_
                  (case side1 => exact HL136_0.out)
                  (case side2 => exact HL137_0.out)
                  (case side3 => exact HL138_0.out)
                  rintro e w79 ⟨v140, v143, rfl, ho0, ho1, hb⟩
                  have HS0_ := (hb.cell (World.block_lt_of_cell? _ _ (hHeld.1))).trans (hHeld.1)
                  have HS1_ := (hb.cell (World.block_lt_of_cell? _ _ (hHeld.2.1))).trans (hHeld.2.1)
                  have HS2_ := (hb.cell (World.block_lt_of_cell? _ _ (hHeld.2.2))).trans (hHeld.2.2)
                  refine ⟨_, rfl, ?_⟩
                  have n0_ := Aside0.mk (Kd.N_mono (Kd.N_told (Kd.N_told (Kd.N_old (by (with_reducible repeat (first | apply Kd.N_alloc | apply Kd.N_drewN | apply Kd.N_drew)); exact HO_4.out) hb) (Kd.R_base ho0)) (Kd.R_base ho1)) (fun _ h_ => h_.1))
                  have n1_ := Aside0.mk (Kd.V_mono (Kd.V_told (Kd.V_told (Kd.V_old (by (with_reducible repeat (first | apply Kd.V_alloc | apply Kd.V_drewN | apply Kd.V_drew)); exact HL136_0.out) hb) (Kd.R_base ho0)) (Kd.R_base ho1)) (fun _ h_ => h_.1))
                  have n2_ := Aside0.mk (Kd.V_mono (Kd.V_told (Kd.V_told (Kd.V_old (by (with_reducible repeat (first | apply Kd.V_alloc | apply Kd.V_drewN | apply Kd.V_drew)); exact HL137_0.out) hb) (Kd.R_base ho0)) (Kd.R_base ho1)) (fun _ h_ => h_.1))
                  have n3_ := Aside0.mk (Kd.V_mono (Kd.V_told (Kd.V_told (Kd.V_old (by (with_reducible repeat (first | apply Kd.V_alloc | apply Kd.V_drewN | apply Kd.V_drew)); exact HL138_0.out) hb) (Kd.R_base ho0)) (Kd.R_base ho1)) (fun _ h_ => h_.1))
                  have n4_ := Aside0.mk (Kd.R_lower (Kd.R_mono (ok' := fun k_ => some k_ ≠ (v143 : Value).ownBlock) ho0 (fun _ hk_ => hk_.2)) (below_size (by repeat (first | (with_reducible first | exact HB.out | apply below_alloc | apply pw_below_drewN | apply below_drew1) | exact HB.out))))
                  have n5_ := Aside0.mk (Kd.R_lower (Kd.R_mono (ok' := fun k_ => some k_ ≠ (v140 : Value).ownBlock) ho1 (fun _ hk_ => hk_.2)) (below_size (by repeat (first | (with_reducible first | exact HB.out | apply below_alloc | apply pw_below_drewN | apply below_drew1) | exact HB.out))))
                  have n6_ := Aside0.mk (Kd.C_below (by repeat (first | (with_reducible exact HR136_0.out) | (with_reducible refine Kd.C_alloc ?_ _) | (with_reducible refine Kd.C_drewN ?_ _) | (with_reducible refine Kd.C_drew ?_) | exact HR136_0.out)) hb)
                  have n7_ := Aside0.mk (Kd.C_below (by repeat (first | (with_reducible exact HR137_0.out) | (with_reducible refine Kd.C_alloc ?_ _) | (with_reducible refine Kd.C_drewN ?_ _) | (with_reducible refine Kd.C_drew ?_) | exact HR137_0.out)) hb)
                  have n8_ := Aside0.mk (Kd.C_below (by repeat (first | (with_reducible exact HR138_0.out) | (with_reducible refine Kd.C_alloc ?_ _) | (with_reducible refine Kd.C_drewN ?_ _) | (with_reducible refine Kd.C_drew ?_) | exact HR138_0.out)) hb)
                  have n9_ := Aside0.mk (below_step (by repeat (first | (with_reducible first | exact HB.out | apply below_alloc | apply pw_below_drewN | apply below_drew1) | exact HB.out)) hb)
                  clear HO_4; clear HL136_0; clear HL137_0; clear HL138_0; clear HR136_0; clear HR137_0; clear HR138_0; clear HB
                  have HO_4 := n0_
                  have HL136_0 := n1_
                  have HL137_0 := n2_
                  have HL138_0 := n3_
                  have HO141 := n4_
                  have HO144 := n5_
                  have HR136_0 := n6_
                  have HR137_0 := n7_
                  have HR138_0 := n8_
                  have HB := n9_
                  clear n0_ n1_ n2_ n3_ n4_ n5_ n6_ n7_ n8_ n9_
                  (try clear hb)
                  (try clear hb2)
                  (try clear hk)
                  (try clear hi)
                  (try clear ho0)
                  (try clear ho1)
                  refine hK.out _ _ ⟨HS0_, HS1_, HS2_⟩ (fun hHeld => ?_)
                  clear hK K
                  refine norm_ (a' := ?_) ?_ ?_; rotate_left
                  ·show Act.put _ (some 131) _ = _
                   simp only [Act.put, qa9, qb9, qc9, i64_w, i32_w]
                   rfl
                  refine pure_ (i := 10) (N := some 121) (v := ?_) (a' := ?_) q9_11 rfl rfl (any_of HT_.out (by kernel_rfl)) (fun _ _ _ h => h) (Or.inl ⟨by rfl, ?_⟩) ?_ ?_; rotate_left
                  ·intro w'
                   go_simp; with_reducible rfl
                  rotate_left
                  ·simp only [Act.put, qa9, qb9, qc9, i64_w, i32_w]
                   rfl
                  refine pure_ (i := 11) (N := some 132) (v := ?_) (a' := ?_) q9_12 rfl rfl (any_of HT_.out (by kernel_rfl)) (fun _ _ _ h => h) (Or.inl ⟨by rfl, ?_⟩) ?_ ?_; rotate_left
                  ·intro w'
                   go_simp; with_reducible rfl
                  rotate_left
                  ·simp only [Act.put, qa9, qb9, qc9, i64_w, i32_w]
                   rfl
                  refine pure_ (i := 12) (N := some 133) (v := ?_) (a' := ?_) q9_13 rfl rfl (any_of HT_.out (by kernel_rfl)) (fun _ _ _ h => h) (Or.inl ⟨by rfl, ?_⟩) ?_ ?_; rotate_left
                  ·intro w'
                   go_simp; with_reducible rfl
                  rotate_left
                  ·simp only [Act.put, qa9, qb9, qc9, i64_w, i32_w]
                   rfl
                  refine pure_ (i := 13) (N := some 134) (v := ?_) (a' := ?_) q9_14 rfl rfl (any_of HT_.out (by kernel_rfl)) (fun _ _ _ h => h) (Or.inl ⟨by rfl, ?_⟩) ?_ ?_; rotate_left
                  ·intro w'
                   go_simp; with_reducible rfl
                  rotate_left
                  ·simp only [Act.put, qa9, qb9, qc9, i64_w, i32_w]
                   rfl
                  refine pure_ (i := 14) (N := some 17) (v := ?_) (a' := ?_) q9_15 rfl rfl (any_of HT_.out (by kernel_rfl)) (fun _ _ _ h => h) (Or.inl ⟨by rfl, ?_⟩) ?_ ?_; rotate_left
                  ·intro w'
                   go_simp; with_reducible rfl
                  rotate_left
                  ·simp only [Act.put, qa9, qb9, qc9, i64_w, i32_w]
                   rfl
                  refine pure_ (i := 15) (N := some 18) (v := ?_) (a' := ?_) q9_16 rfl rfl (any_of HT_.out (by kernel_rfl)) (fun _ _ _ h => h) (Or.inl ⟨by rfl, ?_⟩) ?_ ?_; rotate_left
                  ·intro w'
                   go_simp; with_reducible rfl
                  rotate_left
                  ·simp only [Act.put, qa9, qb9, qc9, i64_w, i32_w]
                   rfl
                  refine pure_ (i := 16) (N := some 19) (v := ?_) (a' := ?_) q9_17 rfl rfl (any_of HT_.out (by kernel_rfl)) (fun _ _ _ h => h) (Or.inl ⟨by rfl, ?_⟩) ?_ ?_; rotate_left
                  ·intro w'
                   go_simp; with_reducible rfl
                  rotate_left
                  ·simp only [Act.put, qa9, qb9, qc9, i64_w, i32_w]
                   rfl
                  refine done_ (done_of HT_.out (by kernel_rfl)) ?_
                  try go_wp2
                  have n0_ := Aside0.mk (Kd.N_drew HO_4.out)
                  have n1_ := Aside0.mk (Kd.V_drew HL136_0.out)
                  have n2_ := Aside0.mk (Kd.V_drew HL137_0.out)
                  have n3_ := Aside0.mk (Kd.V_drew HL138_0.out)
                  have n4_ := Aside0.mk (Kd.R_drew HO141.out)
                  have n5_ := Aside0.mk (Kd.R_drew HO144.out)
                  have n6_ := Aside0.mk (Kd.C_drew HR136_0.out)
                  have n7_ := Aside0.mk (Kd.C_drew HR137_0.out)
                  have n8_ := Aside0.mk (Kd.C_drew HR138_0.out)
                  have n9_ := Aside0.mk (below_drew1 HB.out)
                  clear HO_4; clear HL136_0; clear HL137_0; clear HL138_0; clear HO141; clear HO144; clear HR136_0; clear HR137_0; clear HR138_0; clear HB
                  have HO_4 := n0_
                  have HL136_0 := n1_
                  have HL137_0 := n2_
                  have HL138_0 := n3_
                  have HO141 := n4_
                  have HO144 := n5_
                  have HR136_0 := n6_
                  have HR137_0 := n7_
                  have HR138_0 := n8_
                  have HB := n9_
                  clear n0_ n1_ n2_ n3_ n4_ n5_ n6_ n7_ n8_ n9_
                  obtain ⟨Ao81, co81, eo81⟩ := Kd.R_slice HO141.out
                  (first | subst eo81 | (injection eo81 with f1_ f2_ f3_; have f4_ := f1_.symm; have f5_ := f3_.symm; clear f1_ f2_ f3_; subst f4_; subst f5_))
                  obtain ⟨Ao82, co82, eo82⟩ := Kd.R_slice HO144.out
                  (first | subst eo82 | (injection eo82 with f1_ f2_ f3_; have f4_ := f1_.symm; have f5_ := f3_.symm; clear f1_ f2_ f3_; subst f4_; subst f5_))
                  refine start_ (n := 45) (S := fun w' => True) (ds := []) q9_18 (by kernel_rfl) rfl rfl trivial (fun hHeld => ?_); refine with_tabW laws_FnCarrySave.tab25 laws_FnCarrySave.bits25 (fun HT_ HW_ => ?_)
                  generalize w79.drew = w80 at HO_4 HL136_0 HL137_0 HL138_0 HO141 HO144 HR136_0 HR137_0 HR138_0 HB hHeld ⊢
                  refine pure_ (i := 0) (N := some 135) (v := ?_) (a' := ?_) q9_19 rfl rfl (any_of HT_.out (by kernel_rfl)) (fun _ _ _ h => h) (Or.inl ⟨by rfl, ?_⟩) ?_ ?_; rotate_left
                  ·intro w'
                   go_simp; with_reducible rfl
                  rotate_left
                  ·simp only [Act.put, qa9, qb9, qc9, i64_w, i32_w]
                   rfl
                  refine pure_ (i := 1) (N := some 136) (v := ?_) (a' := ?_) q9_20 rfl rfl (any_of HT_.out (by kernel_rfl)) (fun _ _ _ h => h) (Or.inl ⟨by rfl, ?_⟩) ?_ ?_; rotate_left
                  ·intro w'
                   go_simp; with_reducible rfl
                  rotate_left
                  ·simp only [Act.put, qa9, qb9, qc9, i64_w, i32_w]
                   rfl
                  refine pure_ (i := 2) (N := some 137) (v := ?_) (a' := ?_) q9_21 rfl rfl (any_of HT_.out (by kernel_rfl)) (fun _ _ _ h => h) (Or.inl ⟨by rfl, ?_⟩) ?_ ?_; rotate_left
                  ·intro w'
                   go_simp; with_reducible rfl
                  rotate_left
                  ·simp only [Act.put, qa9, qb9, qc9, i64_w, i32_w]
                   rfl
                  refine pure_ (i := 3) (N := some 138) (v := ?_) (a' := ?_) q9_22 rfl rfl (any_of HT_.out (by kernel_rfl)) (fun _ _ _ h => h) (Or.inl ⟨by rfl, ?_⟩) ?_ ?_; rotate_left
                  ·intro w'
                   go_simp; with_reducible rfl
                  rotate_left
                  ·simp only [Act.put, qa9, qb9, qc9, i64_w, i32_w]
                   rfl
                  refine pure_ (i := 4) (N := some 139) (v := ?_) (a' := ?_) q9_23 rfl rfl (any_of HT_.out (by kernel_rfl)) (fun _ _ _ h => h) (Or.inl ⟨by rfl, ?_⟩) ?_ ?_; rotate_left
                  ·intro w'
                   go_simp; with_reducible rfl
                  rotate_left
                  ·simp only [Act.put, qa9, qb9, qc9, i64_w, i32_w]
                   rfl
                  refine pure_ (i := 5) (N := some 140) (v := ?_) (a' := ?_) q9_24 rfl rfl (any_of HT_.out (by kernel_rfl)) (fun _ _ _ h => h) (Or.inl ⟨by rfl, ?_⟩) ?_ ?_; rotate_left
                  ·intro w'
                   go_simp; with_reducible rfl
                  rotate_left
                  ·simp only [Act.put, qa9, qb9, qc9, i64_w, i32_w]
                   rfl
                  refine pure_ (i := 6) (N := some 141) (v := ?_) (a' := ?_) q9_25 rfl rfl (any_of HT_.out (by kernel_rfl)) (fun _ _ _ h => h) (Or.inl ⟨by rfl, ?_⟩) ?_ ?_; rotate_left
                  ·intro w'
                   go_simp; with_reducible rfl
                  rotate_left
                  ·simp only [Act.put, qa9, qb9, qc9, i64_w, i32_w]
                   rfl
                  refine pure_ (i := 7) (N := some 142) (v := ?_) (a' := ?_) q9_26 rfl rfl (any_of HT_.out (by kernel_rfl)) (fun _ _ _ h => h) (Or.inl ⟨by rfl, ?_⟩) ?_ ?_; rotate_left
                  ·intro w'
                   go_simp; with_reducible rfl
                  rotate_left
                  ·simp only [Act.put, qa9, qb9, qc9, i64_w, i32_w]
                   rfl
                  refine pure_ (i := 8) (N := some 143) (v := ?_) (a' := ?_) q9_27 rfl rfl (any_of HT_.out (by kernel_rfl)) (fun _ _ _ h => h) (Or.inl ⟨by rfl, ?_⟩) ?_ ?_; rotate_left
                  ·intro w'
                   go_simp; with_reducible rfl
                  rotate_left
                  ·simp only [Act.put, qa9, qb9, qc9, i64_w, i32_w]
                   rfl
                  refine pure_ (i := 9) (N := some 144) (v := ?_) (a' := ?_) q9_28 rfl rfl (any_of HT_.out (by kernel_rfl)) (fun _ _ _ h => h) (Or.inl ⟨by rfl, ?_⟩) ?_ ?_; rotate_left
                  ·intro w'
                   go_simp; with_reducible rfl
                  rotate_left
                  ·simp only [Act.put, qa9, qb9, qc9, i64_w, i32_w]
                   rfl
                  refine pure_ (i := 10) (N := some 145) (v := ?_) (a' := ?_) q9_29 rfl rfl (any_of HT_.out (by kernel_rfl)) (fun _ _ _ h => h) (Or.inl ⟨by rfl, ?_⟩) ?_ ?_; rotate_left
                  ·intro w'
                   go_simp; with_reducible rfl
                  rotate_left
                  ·simp only [Act.put, qa9, qb9, qc9, i64_w, i32_w]
                   rfl
                  refine pure_ (i := 11) (N := some 146) (v := ?_) (a' := ?_) q9_30 rfl rfl (any_of HT_.out (by kernel_rfl)) (fun _ _ _ h => h) (Or.inl ⟨by rfl, ?_⟩) ?_ ?_; rotate_left
                  ·intro w'
                   go_simp; with_reducible rfl
                  rotate_left
                  ·simp only [Act.put, qa9, qb9, qc9, i64_w, i32_w]
                   rfl
                  refine pure_ (i := 12) (N := some 147) (v := ?_) (a' := ?_) q9_31 rfl rfl (any_of HT_.out (by kernel_rfl)) (fun _ _ _ h => h) (Or.inl ⟨by rfl, ?_⟩) ?_ ?_; rotate_left
                  ·intro w'
                   go_simp; with_reducible rfl
                  rotate_left
                  ·simp only [Act.put, qa9, qb9, qc9, i64_w, i32_w]
                   rfl
                  refine pure_ (i := 13) (N := some 148) (v := ?_) (a' := ?_) q9_32 rfl rfl (any_of HT_.out (by kernel_rfl)) (fun _ _ _ h => h) (Or.inl ⟨by rfl, ?_⟩) ?_ ?_; rotate_left
                  ·intro w'
                   go_simp; with_reducible rfl
                  rotate_left
                  ·simp only [Act.put, qa9, qb9, qc9, i64_w, i32_w]
                   rfl
                  refine pure_ (i := 14) (N := some 149) (v := undef) (a' := ?_) q9_33 rfl rfl (any_of HT_.out (by kernel_rfl)) (fun _ _ _ h => h) (Or.inr ⟨by rfl, rfl⟩) ?_ ?_; rotate_left
                  ·simp only [Act.put, qa9, qb9, qc9, i64_w, i32_w]
                   rfl
                  refine pure_ (i := 15) (N := some 150) (v := undef) (a' := ?_) q9_34 rfl rfl (any_of HT_.out (by kernel_rfl)) (fun _ _ _ h => h) (Or.inr ⟨by rfl, rfl⟩) ?_ ?_; rotate_left
                  ·simp only [Act.put, qa9, qb9, qc9, i64_w, i32_w]
                   rfl
                  refine pure_ (i := 16) (N := some 151) (v := undef) (a' := ?_) q9_35 rfl rfl (any_of HT_.out (by kernel_rfl)) (fun _ _ _ h => h) (Or.inr ⟨by rfl, rfl⟩) ?_ ?_; rotate_left
                  ·simp only [Act.put, qa9, qb9, qc9, i64_w, i32_w]
                   rfl
                  refine pure_ (i := 17) (N := some 152) (v := undef) (a' := ?_) q9_36 rfl rfl (any_of HT_.out (by kernel_rfl)) (fun _ _ _ h => h) (Or.inr ⟨by rfl, rfl⟩) ?_ ?_; rotate_left
                  ·simp only [Act.put, qa9, qb9, qc9, i64_w, i32_w]
                   rfl
                  refine pure_ (i := 18) (N := some 153) (v := ?_) (a' := ?_) q9_37 rfl rfl (any_of HT_.out (by kernel_rfl)) (fun _ _ _ h => h) (Or.inl ⟨by rfl, ?_⟩) ?_ ?_; rotate_left
                  ·intro w'
                   go_simp; with_reducible rfl
                  rotate_left
                  ·simp only [Act.put, qa9, qb9, qc9, i64_w, i32_w]
                   rfl
                  refine pure_ (i := 19) (N := some 154) (v := ?_) (a' := ?_) q9_38 rfl rfl (any_of HT_.out (by kernel_rfl)) (fun _ _ _ h => h) (Or.inl ⟨by rfl, ?_⟩) ?_ ?_; rotate_left
                  ·intro w'
                   go_simp; with_reducible rfl
                  rotate_left
                  ·simp only [Act.put, qa9, qb9, qc9, i64_w, i32_w]
                   rfl
                  refine pure_ (i := 20) (N := some 155) (v := undef) (a' := ?_) q9_39 rfl rfl (any_of HT_.out (by kernel_rfl)) (fun _ _ _ h => h) (Or.inr ⟨by rfl, rfl⟩) ?_ ?_; rotate_left
                  ·simp only [Act.put, qa9, qb9, qc9, i64_w, i32_w]
                   rfl
                  refine pure_ (i := 21) (N := some 156) (v := undef) (a' := ?_) q9_64 rfl rfl (any_of HT_.out (by kernel_rfl)) (fun _ _ _ h => h) (Or.inr ⟨by rfl, rfl⟩) ?_ ?_; rotate_left
                  ·simp only [Act.put, qa9, qb9, qc9, i64_w, i32_w]
                   rfl
                  refine pure_ (i := 22) (N := some 157) (v := undef) (a' := ?_) q9_65 rfl rfl (any_of HT_.out (by kernel_rfl)) (fun _ _ _ h => h) (Or.inr ⟨by rfl, rfl⟩) ?_ ?_; rotate_left
                  ·simp only [Act.put, qa9, qb9, qc9, i64_w, i32_w]
                   rfl
                  refine pure_ (i := 23) (N := some 158) (v := undef) (a' := ?_) q9_66 rfl rfl (any_of HT_.out (by kernel_rfl)) (fun _ _ _ h => h) (Or.inr ⟨by rfl, rfl⟩) ?_ ?_; rotate_left
                  ·simp only [Act.put, qa9, qb9, qc9, i64_w, i32_w]
                   rfl
                  refine pure_ (i := 24) (N := some 159) (v := undef) (a' := ?_) q9_67 rfl rfl (any_of HT_.out (by kernel_rfl)) (fun _ _ _ h => h) (Or.inr ⟨by rfl, rfl⟩) ?_ ?_; rotate_left
                  ·simp only [Act.put, qa9, qb9, qc9, i64_w, i32_w]
                   rfl
                  refine pure_ (i := 25) (N := some 160) (v := undef) (a' := ?_) q9_68 rfl rfl (any_of HT_.out (by kernel_rfl)) (fun _ _ _ h => h) (Or.inr ⟨by rfl, rfl⟩) ?_ ?_; rotate_left
                  ·simp only [Act.put, qa9, qb9, qc9, i64_w, i32_w]
                   rfl
                  refine pure_ (i := 26) (N := some 161) (v := undef) (a' := ?_) q9_69 rfl rfl (any_of HT_.out (by kernel_rfl)) (fun _ _ _ h => h) (Or.inr ⟨by rfl, rfl⟩) ?_ ?_; rotate_left
                  ·simp only [Act.put, qa9, qb9, qc9, i64_w, i32_w]
                   rfl
                  refine pure_ (i := 27) (N := some 162) (v := undef) (a' := ?_) q9_70 rfl rfl (any_of HT_.out (by kernel_rfl)) (fun _ _ _ h => h) (Or.inr ⟨by rfl, rfl⟩) ?_ ?_; rotate_left
                  ·simp only [Act.put, qa9, qb9, qc9, i64_w, i32_w]
                   rfl
                  refine pure_ (i := 28) (N := some 163) (v := undef) (a' := ?_) q9_71 rfl rfl (any_of HT_.out (by kernel_rfl)) (fun _ _ _ h => h) (Or.inr ⟨by rfl, rfl⟩) ?_ ?_; rotate_left
                  ·simp only [Act.put, qa9, qb9, qc9, i64_w, i32_w]
                   rfl
                  refine pure_ (i := 29) (N := some 164) (v := undef) (a' := ?_) q9_72 rfl rfl (any_of HT_.out (by kernel_rfl)) (fun _ _ _ h => h) (Or.inr ⟨by rfl, rfl⟩) ?_ ?_; rotate_left
                  ·simp only [Act.put, qa9, qb9, qc9, i64_w, i32_w]
                   rfl
                  refine pure_ (i := 30) (N := some 165) (v := undef) (a' := ?_) q9_73 rfl rfl (any_of HT_.out (by kernel_rfl)) (fun _ _ _ h => h) (Or.inr ⟨by rfl, rfl⟩) ?_ ?_; rotate_left
                  ·simp only [Act.put, qa9, qb9, qc9, i64_w, i32_w]
                   rfl
                  refine pure_ (i := 31) (N := some 166) (v := undef) (a' := ?_) q9_74 rfl rfl (any_of HT_.out (by kernel_rfl)) (fun _ _ _ h => h) (Or.inr ⟨by rfl, rfl⟩) ?_ ?_; rotate_left
                  ·simp only [Act.put, qa9, qb9, qc9, i64_w, i32_w]
                   rfl
                  refine pure_ (i := 32) (N := some 167) (v := undef) (a' := ?_) q9_75 rfl rfl (any_of HT_.out (by kernel_rfl)) (fun _ _ _ h => h) (Or.inr ⟨by rfl, rfl⟩) ?_ ?_; rotate_left
                  ·simp only [Act.put, qa9, qb9, qc9, i64_w, i32_w]
                   rfl
                  refine pure_ (i := 33) (N := some 168) (v := undef) (a' := ?_) q9_76 rfl rfl (any_of HT_.out (by kernel_rfl)) (fun _ _ _ h => h) (Or.inr ⟨by rfl, rfl⟩) ?_ ?_; rotate_left
                  ·simp only [Act.put, qa9, qb9, qc9, i64_w, i32_w]
                   rfl
                  refine pure_ (i := 34) (N := some 169) (v := undef) (a' := ?_) q9_77 rfl rfl (any_of HT_.out (by kernel_rfl)) (fun _ _ _ h => h) (Or.inr ⟨by rfl, rfl⟩) ?_ ?_; rotate_left
                  ·simp only [Act.put, qa9, qb9, qc9, i64_w, i32_w]
                   rfl
                  refine pure_ (i := 35) (N := some 170) (v := undef) (a' := ?_) q9_78 rfl rfl (any_of HT_.out (by kernel_rfl)) (fun _ _ _ h => h) (Or.inr ⟨by rfl, rfl⟩) ?_ ?_; rotate_left
                  ·simp only [Act.put, qa9, qb9, qc9, i64_w, i32_w]
                   rfl
                  refine pure_ (i := 36) (N := some 171) (v := undef) (a' := ?_) q9_79 rfl rfl (any_of HT_.out (by kernel_rfl)) (fun _ _ _ h => h) (Or.inr ⟨by rfl, rfl⟩) ?_ ?_; rotate_left
                  ·simp only [Act.put, qa9, qb9, qc9, i64_w, i32_w]
                   rfl
                  refine pure_ (i := 37) (N := some 172) (v := undef) (a' := ?_) q9_80 rfl rfl (any_of HT_.out (by kernel_rfl)) (fun _ _ _ h => h) (Or.inr ⟨by rfl, rfl⟩) ?_ ?_; rotate_left
                  ·simp only [Act.put, qa9, qb9, qc9, i64_w, i32_w]
                   rfl
                  refine pure_ (i := 38) (N := some 173) (v := undef) (a' := ?_) q9_81 rfl rfl (any_of HT_.out (by kernel_rfl)) (fun _ _ _ h => h) (Or.inr ⟨by rfl, rfl⟩) ?_ ?_; rotate_left
                  ·simp only [Act.put, qa9, qb9, qc9, i64_w, i32_w]
                   rfl
                  refine pure_ (i := 39) (N := some 174) (v := undef) (a' := ?_) q9_82 rfl rfl (any_of HT_.out (by kernel_rfl)) (fun _ _ _ h => h) (Or.inr ⟨by rfl, rfl⟩) ?_ ?_; rotate_left
                  ·simp only [Act.put, qa9, qb9, qc9, i64_w, i32_w]
                   rfl
                  refine pure_ (i := 40) (N := some 175) (v := undef) (a' := ?_) q9_59 rfl rfl (any_of HT_.out (by kernel_rfl)) (fun _ _ _ h => h) (Or.inr ⟨by rfl, rfl⟩) ?_ ?_; rotate_left
                  ·simp only [Act.put, qa9, qb9, qc9, i64_w, i32_w]
                   rfl
                  refine pure_ (i := 41) (N := some 176) (v := undef) (a' := ?_) q9_60 rfl rfl (any_of HT_.out (by kernel_rfl)) (fun _ _ _ h => h) (Or.inr ⟨by rfl, rfl⟩) ?_ ?_; rotate_left
                  ·simp only [Act.put, qa9, qb9, qc9, i64_w, i32_w]
                   rfl
                  refine pure_ (i := 42) (N := some 177) (v := undef) (a' := ?_) q9_61 rfl rfl (any_of HT_.out (by kernel_rfl)) (fun _ _ _ h => h) (Or.inr ⟨by rfl, rfl⟩) ?_ ?_; rotate_left
                  ·simp only [Act.put, qa9, qb9, qc9, i64_w, i32_w]
                   rfl
                  refine pure_ (i := 43) (N := some 178) (v := ?_) (a' := ?_) q9_62 rfl rfl (any_of HT_.out (by kernel_rfl)) (fun _ _ _ h => h) (Or.inl ⟨by rfl, ?_⟩) ?_ ?_; rotate_left
                  ·intro w'
                   go_simp; with_reducible rfl
                  rotate_left
                  ·simp only [Act.put, qa9, qb9, qc9, i64_w, i32_w]
                   rfl
                  refine pure_ (i := 44) (N := some 2) (v := ?_) (a' := ?_) q9_63 rfl rfl (any_of HT_.out (by kernel_rfl)) (fun _ _ _ h => h) (Or.inl ⟨by rfl, ?_⟩) ?_ ?_; rotate_left
                  ·intro w'
                   go_simp; with_reducible rfl
                  rotate_left
                  ·simp only [Act.put, qa9, qb9, qc9, i64_w, i32_w]
                   rfl
                  refine done_ (done_of HT_.out (by kernel_rfl)) ?_
                  try go_wp2
                  go_ret
                  exact ⟨by first | rfl | (simp [errW_none, errW_some] <;> rfl) | (simp [*, errW_none, errW_some] <;> rfl), by repeat (first | (with_reducible first | exact HB.out | apply below_alloc | apply pw_below_drewN | apply below_drew1) | exact HB.out)⟩
                ·rw [if_neg c58] at H
                 have c58b0 : ((t139.length : Int) == (wrap64 (1 + (Int.tmod t101 12)))) = false := beq_eq_false_iff_ne.mpr c58
                 have c58b1 : ((t139.length : Int) != (wrap64 (1 + (Int.tmod t101 12)))) = true := bne_iff_ne.mpr c58
                 obtain rfl := Option.some.inj H
                 try go_wp2
                 have n0_ := Aside0.mk (Kd.N_drew HO_4.out)
                 have n1_ := Aside0.mk (below_drew1 HB.out)
                 clear HO_4; clear HB
                 have HO_4 := n0_
                 have HB := n1_
                 clear n0_ n1_
                 have p136 : 0 ≤ (0 : Int) := (by omega)
                 have q136 : 0 < (x4_1.length : Int) := of_decide_eq_true (by assumption)
                 obtain ⟨ad136, A136_0, c136_0, e136, hx136_0, hl136_0, hi136_0⟩ := at_L2 (Kd.N_reads' HO_4.out).2.2 0 p136 q136
                 cases e136
                 obtain ⟨ce136, hce136, hMe136, hcc136⟩ := Kd.N_get HO_4.out [] 0 p136 (by first | exact q136 | exact of_decide_eq_true (by assumption) | (have e_ := (Kd.N_reads' HO_4.out).1; omega))
                 obtain ⟨ua136_0, uc136_0, rfl, ul136_0, ge136_0⟩ := Kd.FK_slice_open hMe136
                 have hv136_0 := hcc136 0 _ rfl
                 rw [Nat.add_zero, show ((Kd.slice 3 (Kd.int .i64))).sz = 1 from rfl, Nat.mul_one] at hv136_0
                 replace hv136_0 := Option.some.inj (hv136_0.symm.trans hx136_0)
                 injection hv136_0 with hva_ hvn_ hvc_
                 rw [hva_] at ge136_0
                 rw [hvc_] at ul136_0
                 have HL136_0 := Aside0.mk (show Kd.V (Kd.int .i64) 3 _ w.heap.size _ _ (rd_L2 x4_1 0) from Kd.V_mk ul136_0 ge136_0)
                 clear hva_ hvn_ hvc_ ge136_0 ul136_0
                 clear hcc136 hce136
                 have qi136 : (0 < x4_1.length) = True := eq_true (by omega)
                 (try rw [show ((0 : Int)).toNat = 0 from rfl] at hx136_0)
                 (try rw [Addr.add_zero'] at hx136_0)
                 have HR136_0 := Aside0.mk hi136_0
                 have HC136_0 := Aside0.mk hl136_0
                 clear hi136_0 hl136_0
                 replace p136 := eq_true p136
                 replace q136 := eq_true q136
                 have p137 : 0 ≤ (1 : Int) := (by omega)
                 have q137 : 1 < (x4_1.length : Int) := of_decide_eq_true (by assumption)
                 obtain ⟨ad137, A137_0, c137_0, e137, hx137_0, hl137_0, hi137_0⟩ := at_L2 (Kd.N_reads' HO_4.out).2.2 1 p137 q137
                 obtain rfl : ad136 = ad137 := (by injection e137)
                 obtain ⟨ce137, hce137, hMe137, hcc137⟩ := Kd.N_get HO_4.out [] 1 p137 (by first | exact q137 | exact of_decide_eq_true (by assumption) | (have e_ := (Kd.N_reads' HO_4.out).1; omega))
                 obtain ⟨ua137_0, uc137_0, rfl, ul137_0, ge137_0⟩ := Kd.FK_slice_open hMe137
                 have hv137_0 := hcc137 0 _ rfl
                 rw [Nat.add_zero, show ((Kd.slice 3 (Kd.int .i64))).sz = 1 from rfl, Nat.mul_one] at hv137_0
                 replace hv137_0 := Option.some.inj (hv137_0.symm.trans hx137_0)
                 injection hv137_0 with hva_ hvn_ hvc_
                 rw [hva_] at ge137_0
                 rw [hvc_] at ul137_0
                 have HL137_0 := Aside0.mk (show Kd.V (Kd.int .i64) 3 _ w.heap.size _ _ (rd_L2 x4_1 1) from Kd.V_mk ul137_0 ge137_0)
                 clear hva_ hvn_ hvc_ ge137_0 ul137_0
                 clear hcc137 hce137
                 (try simp only [show (1 : Int).toNat = 1 from rfl, Nat.reduceMul, Nat.reduceEqDiff, Go.Addr.add, ↓reduceIte] at hx137_0)
                 have qi137 : (1 < x4_1.length) = True := eq_true (by omega)
                 (try rw [show ((1 : Int)).toNat = 1 from rfl] at hx137_0)
                 have HR137_0 := Aside0.mk hi137_0
                 have HC137_0 := Aside0.mk hl137_0
                 clear hi137_0 hl137_0
                 replace p137 := eq_true p137
                 replace q137 := eq_true q137
                 have p138 : 0 ≤ (2 : Int) := (by omega)
                 have q138 : 2 < (x4_1.length : Int) := of_decide_eq_true (by assumption)
                 obtain ⟨ad138, A138_0, c138_0, e138, hx138_0, hl138_0, hi138_0⟩ := at_L2 (Kd.N_reads' HO_4.out).2.2 2 p138 q138
                 obtain rfl : ad136 = ad138 := (by injection e138)
                 obtain ⟨ce138, hce138, hMe138, hcc138⟩ := Kd.N_get HO_4.out [] 2 p138 (by first | exact q138 | exact of_decide_eq_true (by assumption) | (have e_ := (Kd.N_reads' HO_4.out).1; omega))
                 obtain ⟨ua138_0, uc138_0, rfl, ul138_0, ge138_0⟩ := Kd.FK_slice_open hMe138
                 have hv138_0 := hcc138 0 _ rfl
                 rw [Nat.add_zero, show ((Kd.slice 3 (Kd.int .i64))).sz = 1 from rfl, Nat.mul_one] at hv138_0
                 replace hv138_0 := Option.some.inj (hv138_0.symm.trans hx138_0)
                 injection hv138_0 with hva_ hvn_ hvc_
                 rw [hva_] at ge138_0
                 rw [hvc_] at ul138_0
                 have HL138_0 := Aside0.mk (show Kd.V (Kd.int .i64) 3 _ w.heap.size _ _ (rd_L2 x4_1 2) from Kd.V_mk ul138_0 ge138_0)
                 clear hva_ hvn_ hvc_ ge138_0 ul138_0
                 clear hcc138 hce138
                 (try simp only [show (2 : Int).toNat = 2 from rfl, Nat.reduceMul, Nat.reduceEqDiff, Go.Addr.add, ↓reduceIte] at hx138_0)
                 have qi138 : (2 < x4_1.length) = True := eq_true (by omega)
                 (try rw [show ((2 : Int)).toNat = 2 from rfl] at hx138_0)
                 have HR138_0 := Aside0.mk hi138_0
                 have HC138_0 := Aside0.mk hl138_0
                 clear hi138_0 hl138_0
                 replace p138 := eq_true p138
                 replace q138 := eq_true q138
                 refine start_ (n := 17) (S := fun w' => w'.cell? ad136 = some (.slice A136_0 (rd_L2 x4_1 0).length c136_0) ∧ w'.cell? ⟨ad136.block, ad136.off + 1, none⟩ = some (.slice A137_0 (rd_L2 x4_1 1).length c137_0) ∧ w'.cell? ⟨ad136.block, ad136.off + 2, none⟩ = some (.slice A138_0 (rd_L2 x4_1 2).length c138_0)) (ds := []) q9_0 (by kernel_rfl) rfl rfl ⟨hx136_0, hx137_0, hx138_0⟩ (fun hHeld => ?_); refine with_tabW laws_FnCarrySave.tab24 laws_FnCarrySave.bits24 (fun HT_ HW_ => ?_)
                 generalize wc.drew = w83 at HO_4 HB HL136_0 HL137_0 HL138_0 HR136_0 HR137_0 HR138_0 hx136_0 hx137_0 hx138_0 hHeld ⊢
                 refine pure_ (i := 0) (N := some 122) (v := ?_) (a' := ?_) q9_1 rfl rfl (any_of HT_.out (by kernel_rfl)) (fun _ _ _ h => h) (Or.inl ⟨by rfl, ?_⟩) ?_ ?_; rotate_left
                 ·intro w'
                  go_simp; with_reducible rfl
                 rotate_left
                 ·simp only [Act.put, qa9, qb9, qc9, i64_w, i32_w]
                  rfl
                 refine pure_ (i := 1) (N := some 123) (v := ?_) (a' := ?_) q9_2 rfl rfl (any_of HT_.out (by kernel_rfl)) (fun _ _ _ h => h) (Or.inl ⟨by rfl, ?_⟩) ?_ ?_; rotate_left
                 ·intro w'
                  go_simp; with_reducible rfl
                 rotate_left
                 ·simp only [Act.put, qa9, qb9, qc9, i64_w, i32_w]
                  rfl
                 refine pure_ (i := 3) (N := some 125) (v := ?_) (a' := ?_) q9_3 rfl rfl (any_of HT_.out (by kernel_rfl)) (fun _ _ _ h => h) (Or.inl ⟨by rfl, ?_⟩) ?_ ?_; rotate_left
                 ·intro w'
                  go_simp; with_reducible rfl
                 rotate_left
                 ·simp only [Act.put, qa9, qb9, qc9, i64_w, i32_w]
                  rfl
                 refine pure_ (i := 4) (N := some 126) (v := ?_) (a' := ?_) q9_4 rfl rfl (any_of HT_.out (by kernel_rfl)) (fun _ _ _ h => h) (Or.inl ⟨by rfl, ?_⟩) ?_ ?_; rotate_left
                 ·intro w'
                  go_simp; with_reducible rfl
                 rotate_left
                 ·simp only [Act.put, qa9, qb9, qc9, i64_w, i32_w]
                  rfl
                 refine pure_ (i := 6) (N := some 128) (v := ?_) (a' := ?_) q9_5 rfl rfl (any_of HT_.out (by kernel_rfl)) (fun _ _ _ h => h) (Or.inl ⟨by rfl, ?_⟩) ?_ ?_; rotate_left
                 ·intro w'
                  go_simp; with_reducible rfl
                 rotate_left
                 ·simp only [Act.put, qa9, qb9, qc9, i64_w, i32_w]
                  rfl
                 refine pure_ (i := 7) (N := some 129) (v := ?_) (a' := ?_) q9_6 rfl rfl (any_of HT_.out (by kernel_rfl)) (fun _ _ _ h => h) (Or.inl ⟨by rfl, ?_⟩) ?_ ?_; rotate_left
                 ·intro w'
                  go_simp; with_reducible rfl
                 rotate_left
                 ·simp only [Act.put, qa9, qb9, qc9, i64_w, i32_w]
                  rfl
                 refine take_ (i := 2) (N := some 124) (v := ?_) (a' := ?_) q9_7 rfl rfl (take_ofW HT_.out HW_.out (by kernel_rfl)) (fun _ _ _ h => h) (Or.inl ⟨by rfl, ?_⟩) hHeld ?_ ?_; rotate_left
                 ·rintro w' ⟨s0, s1, s2⟩
                  go_simp; with_reducible rfl
                 rotate_left
                 ·simp only [Act.put, qa9, qb9, qc9, i64_w, i32_w]
                  rfl
                 refine take_ (i := 5) (N := some 127) (v := ?_) (a' := ?_) q9_8 rfl rfl (take_ofW HT_.out HW_.out (by kernel_rfl)) (fun _ _ _ h => h) (Or.inl ⟨by rfl, ?_⟩) hHeld ?_ ?_; rotate_left
                 ·rintro w' ⟨s0, s1, s2⟩
                  go_simp; with_reducible rfl
                 rotate_left
                 ·simp only [Act.put, qa9, qb9, qc9, i64_w, i32_w]
                  rfl
                 refine take_ (i := 8) (N := some 130) (v := ?_) (a' := ?_) q9_9 rfl rfl (take_ofW HT_.out HW_.out (by kernel_rfl)) (fun _ _ _ h => h) (Or.inl ⟨by rfl, ?_⟩) hHeld ?_ ?_; rotate_left
                 ·rintro w' ⟨s0, s1, s2⟩
                  go_simp; with_reducible rfl
                 rotate_left
                 ·simp only [Act.put, qa9, qb9, qc9, i64_w, i32_w]
                  rfl
                 refine one_ (i := 9) (N := some 131) q9_10 rfl rfl (one_of HT_.out (by kernel_rfl)) (by decide) (fun K hK => ?_)
                 refine goes_ Try.func43 (by kernel_rfl) rfl #[.slice A136_0 (rd_L2 x4_1 0).length c136_0, .slice A137_0 (rd_L2 x4_1 1).length c137_0, .slice A138_0 (rd_L2 x4_1 2).length c138_0] (by rfl) rfl rfl (by (try simp only [List.map_toArray, List.map_cons, List.map_nil]); first | done | rfl | (simp only [List.length_drop, List.length_take]; rfl)) ?_
                 with_reducible refine (impl_CarrySave.calls kj28 (fun k_ => (True ∧ some k_ ≠ (.slice (some ad136) x4_1.length co19 : Value).ownBlock)) _ _ (rd_L2 x4_1 0) (fun k_ => (True ∧ some k_ ≠ (.slice (some ad136) x4_1.length co19 : Value).ownBlock)) _ _ (rd_L2 x4_1 1) (fun k_ => (True ∧ some k_ ≠ (.slice (some ad136) x4_1.length co19 : Value).ownBlock)) _ _ (rd_L2 x4_1 2) t139 t142 true _ ?side1 ?side2 ?side3 A56.out).mono ?_
                 (case side1 => exact HL136_0.out)
                 (case side2 => exact HL137_0.out)
                 (case side3 => exact HL138_0.out)
                 rintro e w84 ⟨v140, v143, rfl, ho0, ho1, hb⟩
                 have HS0_ := (hb.cell (World.block_lt_of_cell? _ _ (hHeld.1))).trans (hHeld.1)
                 have HS1_ := (hb.cell (World.block_lt_of_cell? _ _ (hHeld.2.1))).trans (hHeld.2.1)
                 have HS2_ := (hb.cell (World.block_lt_of_cell? _ _ (hHeld.2.2))).trans (hHeld.2.2)
                 refine ⟨_, rfl, ?_⟩
                 have n0_ := Aside0.mk (Kd.N_mono (Kd.N_told (Kd.N_told (Kd.N_old (by (with_reducible repeat (first | apply Kd.N_alloc | apply Kd.N_drewN | apply Kd.N_drew)); exact HO_4.out) hb) (Kd.R_base ho0)) (Kd.R_base ho1)) (fun _ h_ => h_.1))
                 have n1_ := Aside0.mk (Kd.V_mono (Kd.V_told (Kd.V_told (Kd.V_old (by (with_reducible repeat (first | apply Kd.V_alloc | apply Kd.V_drewN | apply Kd.V_drew)); exact HL136_0.out) hb) (Kd.R_base ho0)) (Kd.R_base ho1)) (fun _ h_ => h_.1))
                 have n2_ := Aside0.mk (Kd.V_mono (Kd.V_told (Kd.V_told (Kd.V_old (by (with_reducible repeat (first | apply Kd.V_alloc | apply Kd.V_drewN | apply Kd.V_drew)); exact HL137_0.out) hb) (Kd.R_base ho0)) (Kd.R_base ho1)) (fun _ h_ => h_.1))
                 have n3_ := Aside0.mk (Kd.V_mono (Kd.V_told (Kd.V_told (Kd.V_old (by (with_reducible repeat (first | apply Kd.V_alloc | apply Kd.V_drewN | apply Kd.V_drew)); exact HL138_0.out) hb) (Kd.R_base ho0)) (Kd.R_base ho1)) (fun _ h_ => h_.1))
                 have n4_ := Aside0.mk (Kd.R_lower (Kd.R_mono (ok' := fun k_ => some k_ ≠ (v143 : Value).ownBlock) ho0 (fun _ hk_ => hk_.2)) (below_size (by repeat (first | (with_reducible first | exact HB.out | apply below_alloc | apply pw_below_drewN | apply below_drew1) | exact HB.out))))
                 have n5_ := Aside0.mk (Kd.R_lower (Kd.R_mono (ok' := fun k_ => some k_ ≠ (v140 : Value).ownBlock) ho1 (fun _ hk_ => hk_.2)) (below_size (by repeat (first | (with_reducible first | exact HB.out | apply below_alloc | apply pw_below_drewN | apply below_drew1) | exact HB.out))))
                 have n6_ := Aside0.mk (Kd.C_below (by repeat (first | (with_reducible exact HR136_0.out) | (with_reducible refine Kd.C_alloc ?_ _) | (with_reducible refine Kd.C_drewN ?_ _) | (with_reducible refine Kd.C_drew ?_) | exact HR136_0.out)) hb)
                 have n7_ := Aside0.mk (Kd.C_below (by repeat (first | (with_reducible exact HR137_0.out) | (with_reducible refine Kd.C_alloc ?_ _) | (with_reducible refine Kd.C_drewN ?_ _) | (with_reducible refine Kd.C_drew ?_) | exact HR137_0.out)) hb)
                 have n8_ := Aside0.mk (Kd.C_below (by repeat (first | (with_reducible exact HR138_0.out) | (with_reducible refine Kd.C_alloc ?_ _) | (with_reducible refine Kd.C_drewN ?_ _) | (with_reducible refine Kd.C_drew ?_) | exact HR138_0.out)) hb)
                 have n9_ := Aside0.mk (below_step (by repeat (first | (with_reducible first | exact HB.out | apply below_alloc | apply pw_below_drewN | apply below_drew1) | exact HB.out)) hb)
                 clear HO_4; clear HL136_0; clear HL137_0; clear HL138_0; clear HR136_0; clear HR137_0; clear HR138_0; clear HB
                 have HO_4 := n0_
                 have HL136_0 := n1_
                 have HL137_0 := n2_
                 have HL138_0 := n3_
                 have HO141 := n4_
                 have HO144 := n5_
                 have HR136_0 := n6_
                 have HR137_0 := n7_
                 have HR138_0 := n8_
                 have HB := n9_
                 clear n0_ n1_ n2_ n3_ n4_ n5_ n6_ n7_ n8_ n9_
                 (try clear hb)
                 (try clear hb2)
                 (try clear hk)
                 (try clear hi)
                 (try clear ho0)
                 (try clear ho1)
                 refine hK.out _ _ ⟨HS0_, HS1_, HS2_⟩ (fun hHeld => ?_)
                 clear hK K
                 refine norm_ (a' := ?_) ?_ ?_; rotate_left
                 ·show Act.put _ (some 131) _ = _
                  simp only [Act.put, qa9, qb9, qc9, i64_w, i32_w]
                  rfl
                 refine pure_ (i := 10) (N := some 121) (v := ?_) (a' := ?_) q9_11 rfl rfl (any_of HT_.out (by kernel_rfl)) (fun _ _ _ h => h) (Or.inl ⟨by rfl, ?_⟩) ?_ ?_; rotate_left
                 ·intro w'
                  go_simp; with_reducible rfl
                 rotate_left
                 ·simp only [Act.put, qa9, qb9, qc9, i64_w, i32_w]
                  rfl
                 refine pure_ (i := 11) (N := some 132) (v := ?_) (a' := ?_) q9_12 rfl rfl (any_of HT_.out (by kernel_rfl)) (fun _ _ _ h => h) (Or.inl ⟨by rfl, ?_⟩) ?_ ?_; rotate_left
                 ·intro w'
                  go_simp; with_reducible rfl
                 rotate_left
                 ·simp only [Act.put, qa9, qb9, qc9, i64_w, i32_w]
                  rfl
                 refine pure_ (i := 12) (N := some 133) (v := ?_) (a' := ?_) q9_13 rfl rfl (any_of HT_.out (by kernel_rfl)) (fun _ _ _ h => h) (Or.inl ⟨by rfl, ?_⟩) ?_ ?_; rotate_left
                 ·intro w'
                  go_simp; with_reducible rfl
                 rotate_left
                 ·simp only [Act.put, qa9, qb9, qc9, i64_w, i32_w]
                  rfl
                 refine pure_ (i := 13) (N := some 134) (v := ?_) (a' := ?_) q9_14 rfl rfl (any_of HT_.out (by kernel_rfl)) (fun _ _ _ h => h) (Or.inl ⟨by rfl, ?_⟩) ?_ ?_; rotate_left
                 ·intro w'
                  go_simp; with_reducible rfl
                 rotate_left
                 ·simp only [Act.put, qa9, qb9, qc9, i64_w, i32_w]
                  rfl
                 refine pure_ (i := 14) (N := some 17) (v := ?_) (a' := ?_) q9_15 rfl rfl (any_of HT_.out (by kernel_rfl)) (fun _ _ _ h => h) (Or.inl ⟨by rfl, ?_⟩) ?_ ?_; rotate_left
                 ·intro w'
                  go_simp; with_reducible rfl
                 rotate_left
                 ·simp only [Act.put, qa9, qb9, qc9, i64_w, i32_w]
                  rfl
                 refine pure_ (i := 15) (N := some 18) (v := ?_) (a' := ?_) q9_16 rfl rfl (any_of HT_.out (by kernel_rfl)) (fun _ _ _ h => h) (Or.inl ⟨by rfl, ?_⟩) ?_ ?_; rotate_left
                 ·intro w'
                  go_simp; with_reducible rfl
                 rotate_left
                 ·simp only [Act.put, qa9, qb9, qc9, i64_w, i32_w]
                  rfl
                 refine pure_ (i := 16) (N := some 19) (v := ?_) (a' := ?_) q9_17 rfl rfl (any_of HT_.out (by kernel_rfl)) (fun _ _ _ h => h) (Or.inl ⟨by rfl, ?_⟩) ?_ ?_; rotate_left
                 ·intro w'
                  go_simp; with_reducible rfl
                 rotate_left
                 ·simp only [Act.put, qa9, qb9, qc9, i64_w, i32_w]
                  rfl
                 refine done_ (done_of HT_.out (by kernel_rfl)) ?_
                 try go_wp2
                 have n0_ := Aside0.mk (Kd.N_drew HO_4.out)
                 have n1_ := Aside0.mk (Kd.V_drew HL136_0.out)
                 have n2_ := Aside0.mk (Kd.V_drew HL137_0.out)
                 have n3_ := Aside0.mk (Kd.V_drew HL138_0.out)
                 have n4_ := Aside0.mk (Kd.R_drew HO141.out)
                 have n5_ := Aside0.mk (Kd.R_drew HO144.out)
                 have n6_ := Aside0.mk (Kd.C_drew HR136_0.out)
                 have n7_ := Aside0.mk (Kd.C_drew HR137_0.out)
                 have n8_ := Aside0.mk (Kd.C_drew HR138_0.out)
                 have n9_ := Aside0.mk (below_drew1 HB.out)
                 clear HO_4; clear HL136_0; clear HL137_0; clear HL138_0; clear HO141; clear HO144; clear HR136_0; clear HR137_0; clear HR138_0; clear HB
                 have HO_4 := n0_
                 have HL136_0 := n1_
                 have HL137_0 := n2_
                 have HL138_0 := n3_
                 have HO141 := n4_
                 have HO144 := n5_
                 have HR136_0 := n6_
                 have HR137_0 := n7_
                 have HR138_0 := n8_
                 have HB := n9_
                 clear n0_ n1_ n2_ n3_ n4_ n5_ n6_ n7_ n8_ n9_
                 obtain ⟨Ao86, co86, eo86⟩ := Kd.R_slice HO141.out
                 (first | subst eo86 | (injection eo86 with f1_ f2_ f3_; have f4_ := f1_.symm; have f5_ := f3_.symm; clear f1_ f2_ f3_; subst f4_; subst f5_))
                 refine start_ (n := 45) (S := fun w' => True) (ds := []) q9_18 (by kernel_rfl) rfl rfl trivial (fun hHeld => ?_); refine with_tabW laws_FnCarrySave.tab25 laws_FnCarrySave.bits25 (fun HT_ HW_ => ?_)
                 generalize w84.drew = w85 at HO_4 HL136_0 HL137_0 HL138_0 HO141 HO144 HR136_0 HR137_0 HR138_0 HB hHeld ⊢
                 refine pure_ (i := 0) (N := some 135) (v := ?_) (a' := ?_) q9_19 rfl rfl (any_of HT_.out (by kernel_rfl)) (fun _ _ _ h => h) (Or.inl ⟨by rfl, ?_⟩) ?_ ?_; rotate_left
                 ·intro w'
                  go_simp; with_reducible rfl
                 rotate_left
                 ·simp only [Act.put, qa9, qb9, qc9, i64_w, i32_w]
                  rfl
                 refine pure_ (i := 1) (N := some 136) (v := ?_) (a' := ?_) q9_20 rfl rfl (any_of HT_.out (by kernel_rfl)) (fun _ _ _ h => h) (Or.inl ⟨by rfl, ?_⟩) ?_ ?_; rotate_left
                 ·intro w'
                  go_simp; with_reducible rfl
                 rotate_left
                 ·simp only [Act.put, qa9, qb9, qc9, i64_w, i32_w]
                  rfl
                 refine pure_ (i := 2) (N := some 137) (v := ?_) (a' := ?_) q9_21 rfl rfl (any_of HT_.out (by kernel_rfl)) (fun _ _ _ h => h) (Or.inl ⟨by rfl, ?_⟩) ?_ ?_; rotate_left
                 ·intro w'
                  go_simp; with_reducible rfl
                 rotate_left
                 ·simp only [Act.put, qa9, qb9, qc9, i64_w, i32_w]
                  rfl
                 refine pure_ (i := 3) (N := some 138) (v := ?_) (a' := ?_) q9_22 rfl rfl (any_of HT_.out (by kernel_rfl)) (fun _ _ _ h => h) (Or.inl ⟨by rfl, ?_⟩) ?_ ?_; rotate_left
                 ·intro w'
                  go_simp; with_reducible rfl
                 rotate_left
                 ·simp only [Act.put, qa9, qb9, qc9, i64_w, i32_w]
                  rfl
                 refine pure_ (i := 4) (N := some 139) (v := ?_) (a' := ?_) q9_23 rfl rfl (any_of HT_.out (by kernel_rfl)) (fun _ _ _ h => h) (Or.inl ⟨by rfl, ?_⟩) ?_ ?_; rotate_left
                 ·intro w'
                  go_simp; with_reducible rfl
                 rotate_left
                 ·simp only [Act.put, qa9, qb9, qc9, i64_w, i32_w]
                  rfl
                 refine pure_ (i := 5) (N := some 140) (v := ?_) (a' := ?_) q9_24 rfl rfl (any_of HT_.out (by kernel_rfl)) (fun _ _ _ h => h) (Or.inl ⟨by rfl, ?_⟩) ?_ ?_; rotate_left
                 ·intro w'
                  go_simp; with_reducible rfl
                 rotate_left
                 ·simp only [Act.put, qa9, qb9, qc9, i64_w, i32_w]
                  rfl
                 refine pure_ (i := 6) (N := some 141) (v := ?_) (a' := ?_) q9_25 rfl rfl (any_of HT_.out (by kernel_rfl)) (fun _ _ _ h => h) (Or.inl ⟨by rfl, ?_⟩) ?_ ?_; rotate_left
                 ·intro w'
                  go_simp; with_reducible rfl
                 rotate_left
                 ·simp only [Act.put, qa9, qb9, qc9, i64_w, i32_w]
                  rfl
                 refine pure_ (i := 7) (N := some 142) (v := ?_) (a' := ?_) q9_26 rfl rfl (any_of HT_.out (by kernel_rfl)) (fun _ _ _ h => h) (Or.inl ⟨by rfl, ?_⟩) ?_ ?_; rotate_left
                 ·intro w'
                  go_simp; with_reducible rfl
                 rotate_left
                 ·simp only [Act.put, qa9, qb9, qc9, i64_w, i32_w]
                  rfl
                 refine pure_ (i := 8) (N := some 143) (v := undef) (a' := ?_) q9_27 rfl rfl (any_of HT_.out (by kernel_rfl)) (fun _ _ _ h => h) (Or.inr ⟨by rfl, rfl⟩) ?_ ?_; rotate_left
                 ·simp only [Act.put, qa9, qb9, qc9, i64_w, i32_w]
                  rfl
                 refine pure_ (i := 9) (N := some 144) (v := undef) (a' := ?_) q9_28 rfl rfl (any_of HT_.out (by kernel_rfl)) (fun _ _ _ h => h) (Or.inr ⟨by rfl, rfl⟩) ?_ ?_; rotate_left
                 ·simp only [Act.put, qa9, qb9, qc9, i64_w, i32_w]
                  rfl
                 refine pure_ (i := 10) (N := some 145) (v := undef) (a' := ?_) q9_29 rfl rfl (any_of HT_.out (by kernel_rfl)) (fun _ _ _ h => h) (Or.inr ⟨by rfl, rfl⟩) ?_ ?_; rotate_left
                 ·simp only [Act.put, qa9, qb9, qc9, i64_w, i32_w]
                  rfl
                 refine pure_ (i := 11) (N := some 146) (v := undef) (a' := ?_) q9_30 rfl rfl (any_of HT_.out (by kernel_rfl)) (fun _ _ _ h => h) (Or.inr ⟨by rfl, rfl⟩) ?_ ?_; rotate_left
                 ·simp only [Act.put, qa9, qb9, qc9, i64_w, i32_w]
                  rfl
                 refine pure_ (i := 12) (N := some 147) (v := ?_) (a' := ?_) q9_31 rfl rfl (any_of HT_.out (by kernel_rfl)) (fun _ _ _ h => h) (Or.inl ⟨by rfl, ?_⟩) ?_ ?_; rotate_left
                 ·intro w'
                  go_simp; with_reducible rfl
                 rotate_left
                 ·simp only [Act.put, qa9, qb9, qc9, i64_w, i32_w]
                  rfl
                 refine pure_ (i := 13) (N := some 148) (v := ?_) (a' := ?_) q9_32 rfl rfl (any_of HT_.out (by kernel_rfl)) (fun _ _ _ h => h) (Or.inl ⟨by rfl, ?_⟩) ?_ ?_; rotate_left
                 ·intro w'
                  go_simp; with_reducible rfl
                 rotate_left
                 ·simp only [Act.put, qa9, qb9, qc9, i64_w, i32_w]
                  rfl
                 refine pure_ (i := 14) (N := some 149) (v := undef) (a' := ?_) q9_33 rfl rfl (any_of HT_.out (by kernel_rfl)) (fun _ _ _ h => h) (Or.inr ⟨by rfl, rfl⟩) ?_ ?_; rotate_left
                 ·simp only [Act.put, qa9, qb9, qc9, i64_w, i32_w]
                  rfl
                 refine pure_ (i := 15) (N := some 150) (v := undef) (a' := ?_) q9_34 rfl rfl (any_of HT_.out (by kernel_rfl)) (fun _ _ _ h => h) (Or.inr ⟨by rfl, rfl⟩) ?_ ?_; rotate_left
                 ·simp only [Act.put, qa9, qb9, qc9, i64_w, i32_w]
                  rfl
                 refine pure_ (i := 16) (N := some 151) (v := undef) (a' := ?_) q9_35 rfl rfl (any_of HT_.out (by kernel_rfl)) (fun _ _ _ h => h) (Or.inr ⟨by rfl, rfl⟩) ?_ ?_; rotate_left
                 ·simp only [Act.put, qa9, qb9, qc9, i64_w, i32_w]
                  rfl
                 refine pure_ (i := 17) (N := some 152) (v := undef) (a' := ?_) q9_36 rfl rfl (any_of HT_.out (by kernel_rfl)) (fun _ _ _ h => h) (Or.inr ⟨by rfl, rfl⟩) ?_ ?_; rotate_left
                 ·simp only [Act.put, qa9, qb9, qc9, i64_w, i32_w]
                  rfl
                 refine pure_ (i := 18) (N := some 153) (v := ?_) (a' := ?_) q9_37 rfl rfl (any_of HT_.out (by kernel_rfl)) (fun _ _ _ h => h) (Or.inl ⟨by rfl, ?_⟩) ?_ ?_; rotate_left
                 ·intro w'
                  go_simp; with_reducible rfl
                 rotate_left
                 ·simp only [Act.put, qa9, qb9, qc9, i64_w, i32_w]
                  rfl
                 refine pure_ (i := 19) (N := some 154) (v := ?_) (a' := ?_) q9_38 rfl rfl (any_of HT_.out (by kernel_rfl)) (fun _ _ _ h => h) (Or.inl ⟨by rfl, ?_⟩) ?_ ?_; rotate_left
                 ·intro w'
                  go_simp; with_reducible rfl
                 rotate_left
                 ·simp only [Act.put, qa9, qb9, qc9, i64_w, i32_w]
                  rfl
                 refine pure_ (i := 20) (N := some 155) (v := undef) (a' := ?_) q9_39 rfl rfl (any_of HT_.out (by kernel_rfl)) (fun _ _ _ h => h) (Or.inr ⟨by rfl, rfl⟩) ?_ ?_; rotate_left
                 ·simp only [Act.put, qa9, qb9, qc9, i64_w, i32_w]
                  rfl
                 refine pure_ (i := 21) (N := some 156) (v := undef) (a' := ?_) q9_64 rfl rfl (any_of HT_.out (by kernel_rfl)) (fun _ _ _ h => h) (Or.inr ⟨by rfl, rfl⟩) ?_ ?_; rotate_left
                 ·simp only [Act.put, qa9, qb9, qc9, i64_w, i32_w]
                  rfl
                 refine pure_ (i := 22) (N := some 157) (v := undef) (a' := ?_) q9_65 rfl rfl (any_of HT_.out (by kernel_rfl)) (fun _ _ _ h => h) (Or.inr ⟨by rfl, rfl⟩) ?_ ?_; rotate_left
                 ·simp only [Act.put, qa9, qb9, qc9, i64_w, i32_w]
                  rfl
                 refine pure_ (i := 23) (N := some 158) (v := undef) (a' := ?_) q9_66 rfl rfl (any_of HT_.out (by kernel_rfl)) (fun _ _ _ h => h) (Or.inr ⟨by rfl, rfl⟩) ?_ ?_; rotate_left
                 ·simp only [Act.put, qa9, qb9, qc9, i64_w, i32_w]
                  rfl
                 refine pure_ (i := 24) (N := some 159) (v := undef) (a' := ?_) q9_67 rfl rfl (any_of HT_.out (by kernel_rfl)) (fun _ _ _ h => h) (Or.inr ⟨by rfl, rfl⟩) ?_ ?_; rotate_left
                 ·simp only [Act.put, qa9, qb9, qc9, i64_w, i32_w]
                  rfl
                 refine pure_ (i := 25) (N := some 160) (v := undef) (a' := ?_) q9_68 rfl rfl (any_of HT_.out (by kernel_rfl)) (fun _ _ _ h => h) (Or.inr ⟨by rfl, rfl⟩) ?_ ?_; rotate_left
                 ·simp only [Act.put, qa9, qb9, qc9, i64_w, i32_w]
                  rfl
                 refine pure_ (i := 26) (N := some 161) (v := undef) (a' := ?_) q9_69 rfl rfl (any_of HT_.out (by kernel_rfl)) (fun _ _ _ h => h) (Or.inr ⟨by rfl, rfl⟩) ?_ ?_; rotate_left
                 ·simp only [Act.put, qa9, qb9, qc9, i64_w, i32_w]
                  rfl
                 refine pure_ (i := 27) (N := some 162) (v := undef) (a' := ?_) q9_70 rfl rfl (any_of HT_.out (by kernel_rfl)) (fun _ _ _ h => h) (Or.inr ⟨by rfl, rfl⟩) ?_ ?_; rotate_left
                 ·simp only [Act.put, qa9, qb9, qc9, i64_w, i32_w]
                  rfl
                 refine pure_ (i := 28) (N := some 163) (v := undef) (a' := ?_) q9_71 rfl rfl (any_of HT_.out (by kernel_rfl)) (fun _ _ _ h => h) (Or.inr ⟨by rfl, rfl⟩) ?_ ?_; rotate_left
                 ·simp only [Act.put, qa9, qb9, qc9, i64_w, i32_w]
                  rfl
                 refine pure_ (i := 29) (N := some 164) (v := undef) (a' := ?_) q9_72 rfl rfl (any_of HT_.out (by kernel_rfl)) (fun _ _ _ h => h) (Or.inr ⟨by rfl, rfl⟩) ?_ ?_; rotate_left
                 ·simp only [Act.put, qa9, qb9, qc9, i64_w, i32_w]
                  rfl
                 refine pure_ (i := 30) (N := some 165) (v := undef) (a' := ?_) q9_73 rfl rfl (any_of HT_.out (by kernel_rfl)) (fun _ _ _ h => h) (Or.inr ⟨by rfl, rfl⟩) ?_ ?_; rotate_left
                 ·simp only [Act.put, qa9, qb9, qc9, i64_w, i32_w]
                  rfl
                 refine pure_ (i := 31) (N := some 166) (v := undef) (a' := ?_) q9_74 rfl rfl (any_of HT_.out (by kernel_rfl)) (fun _ _ _ h => h) (Or.inr ⟨by rfl, rfl⟩) ?_ ?_; rotate_left
                 ·simp only [Act.put, qa9, qb9, qc9, i64_w, i32_w]
                  rfl
                 refine pure_ (i := 32) (N := some 167) (v := undef) (a' := ?_) q9_75 rfl rfl (any_of HT_.out (by kernel_rfl)) (fun _ _ _ h => h) (Or.inr ⟨by rfl, rfl⟩) ?_ ?_; rotate_left
                 ·simp only [Act.put, qa9, qb9, qc9, i64_w, i32_w]
                  rfl
                 refine pure_ (i := 33) (N := some 168) (v := undef) (a' := ?_) q9_76 rfl rfl (any_of HT_.out (by kernel_rfl)) (fun _ _ _ h => h) (Or.inr ⟨by rfl, rfl⟩) ?_ ?_; rotate_left
                 ·simp only [Act.put, qa9, qb9, qc9, i64_w, i32_w]
                  rfl
                 refine pure_ (i := 34) (N := some 169) (v := undef) (a' := ?_) q9_77 rfl rfl (any_of HT_.out (by kernel_rfl)) (fun _ _ _ h => h) (Or.inr ⟨by rfl, rfl⟩) ?_ ?_; rotate_left
                 ·simp only [Act.put, qa9, qb9, qc9, i64_w, i32_w]
                  rfl
                 refine pure_ (i := 35) (N := some 170) (v := undef) (a' := ?_) q9_78 rfl rfl (any_of HT_.out (by kernel_rfl)) (fun _ _ _ h => h) (Or.inr ⟨by rfl, rfl⟩) ?_ ?_; rotate_left
                 ·simp only [Act.put, qa9, qb9, qc9, i64_w, i32_w]
                  rfl
                 refine pure_ (i := 36) (N := some 171) (v := undef) (a' := ?_) q9_79 rfl rfl (any_of HT_.out (by kernel_rfl)) (fun _ _ _ h => h) (Or.inr ⟨by rfl, rfl⟩) ?_ ?_; rotate_left
                 ·simp only [Act.put, qa9, qb9, qc9, i64_w, i32_w]
                  rfl
                 refine pure_ (i := 37) (N := some 172) (v := undef) (a' := ?_) q9_80 rfl rfl (any_of HT_.out (by kernel_rfl)) (fun _ _ _ h => h) (Or.inr ⟨by rfl, rfl⟩) ?_ ?_; rotate_left
                 ·simp only [Act.put, qa9, qb9, qc9, i64_w, i32_w]
                  rfl
                 refine pure_ (i := 38) (N := some 173) (v := undef) (a' := ?_) q9_81 rfl rfl (any_of HT_.out (by kernel_rfl)) (fun _ _ _ h => h) (Or.inr ⟨by rfl, rfl⟩) ?_ ?_; rotate_left
                 ·simp only [Act.put, qa9, qb9, qc9, i64_w, i32_w]
                  rfl
                 refine pure_ (i := 39) (N := some 174) (v := undef) (a' := ?_) q9_82 rfl rfl (any_of HT_.out (by kernel_rfl)) (fun _ _ _ h => h) (Or.inr ⟨by rfl, rfl⟩) ?_ ?_; rotate_left
                 ·simp only [Act.put, qa9, qb9, qc9, i64_w, i32_w]
                  rfl
                 refine pure_ (i := 40) (N := some 175) (v := undef) (a' := ?_) q9_59 rfl rfl (any_of HT_.out (by kernel_rfl)) (fun _ _ _ h => h) (Or.inr ⟨by rfl, rfl⟩) ?_ ?_; rotate_left
                 ·simp only [Act.put, qa9, qb9, qc9, i64_w, i32_w]
                  rfl
                 refine pure_ (i := 41) (N := some 176) (v := undef) (a' := ?_) q9_60 rfl rfl (any_of HT_.out (by kernel_rfl)) (fun _ _ _ h => h) (Or.inr ⟨by rfl, rfl⟩) ?_ ?_; rotate_left
                 ·simp only [Act.put, qa9, qb9, qc9, i64_w, i32_w]
                  rfl
                 refine pure_ (i := 42) (N := some 177) (v := undef) (a' := ?_) q9_61 rfl rfl (any_of HT_.out (by kernel_rfl)) (fun _ _ _ h => h) (Or.inr ⟨by rfl, rfl⟩) ?_ ?_; rotate_left
                 ·simp only [Act.put, qa9, qb9, qc9, i64_w, i32_w]
                  rfl
                 refine pure_ (i := 43) (N := some 178) (v := ?_) (a' := ?_) q9_62 rfl rfl (any_of HT_.out (by kernel_rfl)) (fun _ _ _ h => h) (Or.inl ⟨by rfl, ?_⟩) ?_ ?_; rotate_left
                 ·intro w'
                  go_simp; with_reducible rfl
                 rotate_left
                 ·simp only [Act.put, qa9, qb9, qc9, i64_w, i32_w]
                  rfl
                 refine pure_ (i := 44) (N := some 2) (v := ?_) (a' := ?_) q9_63 rfl rfl (any_of HT_.out (by kernel_rfl)) (fun _ _ _ h => h) (Or.inl ⟨by rfl, ?_⟩) ?_ ?_; rotate_left
                 ·intro w'
                  go_simp; with_reducible rfl
                 rotate_left
                 ·simp only [Act.put, qa9, qb9, qc9, i64_w, i32_w]
                  rfl
                 refine done_ (done_of HT_.out (by kernel_rfl)) ?_
                 try go_wp2
                 go_ret
                 exact ⟨by first | rfl | (simp [errW_none, errW_some] <;> rfl) | (simp [*, errW_none, errW_some] <;> rfl), by repeat (first | (with_reducible first | exact HB.out | apply below_alloc | apply pw_below_drewN | apply below_drew1) | exact HB.out)⟩
               ·replace c57 := Bool.eq_false_iff.mpr c57
                subst c57
                have H1 : (some false) = some r := by rw [if_neg (show ¬ (false = true) by decide)] at H; exact H
                clear H
                have H := H1
                clear H1
                obtain rfl := Option.some.inj H
                try go_wp2
                have n0_ := Aside0.mk (Kd.N_drew HO_4.out)
                have n1_ := Aside0.mk (below_drew1 HB.out)
                clear HO_4; clear HB
                have HO_4 := n0_
                have HB := n1_
                clear n0_ n1_
                have p136 : 0 ≤ (0 : Int) := (by omega)
                have q136 : 0 < (x4_1.length : Int) := of_decide_eq_true (by assumption)
                obtain ⟨ad136, A136_0, c136_0, e136, hx136_0, hl136_0, hi136_0⟩ := at_L2 (Kd.N_reads' HO_4.out).2.2 0 p136 q136
                cases e136
                obtain ⟨ce136, hce136, hMe136, hcc136⟩ := Kd.N_get HO_4.out [] 0 p136 (by first | exact q136 | exact of_decide_eq_true (by assumption) | (have e_ := (Kd.N_reads' HO_4.out).1; omega))
                obtain ⟨ua136_0, uc136_0, rfl, ul136_0, ge136_0⟩ := Kd.FK_slice_open hMe136
                have hv136_0 := hcc136 0 _ rfl
                rw [Nat.add_zero, show ((Kd.slice 3 (Kd.int .i64))).sz = 1 from rfl, Nat.mul_one] at hv136_0
                replace hv136_0 := Option.some.inj (hv136_0.symm.trans hx136_0)
                injection hv136_0 with hva_ hvn_ hvc_
                rw [hva_] at ge136_0
                rw [hvc_] at ul136_0
                have HL136_0 := Aside0.mk (show Kd.V (Kd.int .i64) 3 _ w.heap.size _ _ (rd_L2 x4_1 0) from Kd.V_mk ul136_0 ge136_0)
                clear hva_ hvn_ hvc_ ge136_0 ul136_0
                clear hcc136 hce136
                have qi136 : (0 < x4_1.length) = True := eq_true (by omega)
                (try rw [show ((0 : Int)).toNat = 0 from rfl] at hx136_0)
                (try rw [Addr.add_zero'] at hx136_0)
                have HR136_0 := Aside0.mk hi136_0
                have HC136_0 := Aside0.mk hl136_0
                clear hi136_0 hl136_0
                replace p136 := eq_true p136
                replace q136 := eq_true q136
                have p137 : 0 ≤ (1 : Int) := (by omega)
                have q137 : 1 < (x4_1.length : Int) := of_decide_eq_true (by assumption)
                obtain ⟨ad137, A137_0, c137_0, e137, hx137_0, hl137_0, hi137_0⟩ := at_L2 (Kd.N_reads' HO_4.out).2.2 1 p137 q137
                obtain rfl : ad136 = ad137 := (by injection e137)
                obtain ⟨ce137, hce137, hMe137, hcc137⟩ := Kd.N_get HO_4.out [] 1 p137 (by first | exact q137 | exact of_decide_eq_true (by assumption) | (have e_ := (Kd.N_reads' HO_4.out).1; omega))
                obtain ⟨ua137_0, uc137_0, rfl, ul137_0, ge137_0⟩ := Kd.FK_slice_open hMe137
                have hv137_0 := hcc137 0 _ rfl
                rw [Nat.add_zero, show ((Kd.slice 3 (Kd.int .i64))).sz = 1 from rfl, Nat.mul_one] at hv137_0
                replace hv137_0 := Option.some.inj (hv137_0.symm.trans hx137_0)
                injection hv137_0 with hva_ hvn_ hvc_
                rw [hva_] at ge137_0
                rw [hvc_] at ul137_0
                have HL137_0 := Aside0.mk (show Kd.V (Kd.int .i64) 3 _ w.heap.size _ _ (rd_L2 x4_1 1) from Kd.V_mk ul137_0 ge137_0)
                clear hva_ hvn_ hvc_ ge137_0 ul137_0
                clear hcc137 hce137
                (try simp only [show (1 : Int).toNat = 1 from rfl, Nat.reduceMul, Nat.reduceEqDiff, Go.Addr.add, ↓reduceIte] at hx137_0)
                have qi137 : (1 < x4_1.length) = True := eq_true (by omega)
                (try rw [show ((1 : Int)).toNat = 1 from rfl] at hx137_0)
                have HR137_0 := Aside0.mk hi137_0
                have HC137_0 := Aside0.mk hl137_0
                clear hi137_0 hl137_0
                replace p137 := eq_true p137
                replace q137 := eq_true q137
                have p138 : 0 ≤ (2 : Int) := (by omega)
                have q138 : 2 < (x4_1.length : Int) := of_decide_eq_true (by assumption)
                obtain ⟨ad138, A138_0, c138_0, e138, hx138_0, hl138_0, hi138_0⟩ := at_L2 (Kd.N_reads' HO_4.out).2.2 2 p138 q138
                obtain rfl : ad136 = ad138 := (by injection e138)
                obtain ⟨ce138, hce138, hMe138, hcc138⟩ := Kd.N_get HO_4.out [] 2 p138 (by first | exact q138 | exact of_decide_eq_true (by assumption) | (have e_ := (Kd.N_reads' HO_4.out).1; omega))
                obtain ⟨ua138_0, uc138_0, rfl, ul138_0, ge138_0⟩ := Kd.FK_slice_open hMe138
                have hv138_0 := hcc138 0 _ rfl
                rw [Nat.add_zero, show ((Kd.slice 3 (Kd.int .i64))).sz = 1 from rfl, Nat.mul_one] at hv138_0
                replace hv138_0 := Option.some.inj (hv138_0.symm.trans hx138_0)
                injection hv138_0 with hva_ hvn_ hvc_
                rw [hva_] at ge138_0
                rw [hvc_] at ul138_0
                have HL138_0 := Aside0.mk (show Kd.V (Kd.int .i64) 3 _ w.heap.size _ _ (rd_L2 x4_1 2) from Kd.V_mk ul138_0 ge138_0)
                clear hva_ hvn_ hvc_ ge138_0 ul138_0
                clear hcc138 hce138
                (try simp only [show (2 : Int).toNat = 2 from rfl, Nat.reduceMul, Nat.reduceEqDiff, Go.Addr.add, ↓reduceIte] at hx138_0)
                have qi138 : (2 < x4_1.length) = True := eq_true (by omega)
                (try rw [show ((2 : Int)).toNat = 2 from rfl] at hx138_0)
                have HR138_0 := Aside0.mk hi138_0
                have HC138_0 := Aside0.mk hl138_0
                clear hi138_0 hl138_0
                replace p138 := eq_true p138
                replace q138 := eq_true q138
                refine start_ (n := 17) (S := fun w' => w'.cell? ad136 = some (.slice A136_0 (rd_L2 x4_1 0).length c136_0) ∧ w'.cell? ⟨ad136.block, ad136.off + 1, none⟩ = some (.slice A137_0 (rd_L2 x4_1 1).length c137_0) ∧ w'.cell? ⟨ad136.block, ad136.off + 2, none⟩ = some (.slice A138_0 (rd_L2 x4_1 2).length c138_0)) (ds := []) q9_0 (by kernel_rfl) rfl rfl ⟨hx136_0, hx137_0, hx138_0⟩ (fun hHeld => ?_); refine with_tabW laws_FnCarrySave.tab24 laws_FnCarrySave.bits24 (fun HT_ HW_ => ?_)
                generalize wc.drew = w87 at HO_4 HB HL136_0 HL137_0 HL138_0 HR136_0 HR137_0 HR138_0 hx136_0 hx137_0 hx138_0 hHeld ⊢
                refine pure_ (i := 0) (N := some 122) (v := ?_) (a' := ?_) q9_1 rfl rfl (any_of HT_.out (by kernel_rfl)) (fun _ _ _ h => h) (Or.inl ⟨by rfl, ?_⟩) ?_ ?_; rotate_left
                ·intro w'
                 go_simp; with_reducible rfl
                rotate_left
                ·simp only [Act.put, qa9, qb9, qc9, i64_w, i32_w]
                 rfl
                refine pure_ (i := 1) (N := some 123) (v := ?_) (a' := ?_) q9_2 rfl rfl (any_of HT_.out (by kernel_rfl)) (fun _ _ _ h => h) (Or.inl ⟨by rfl, ?_⟩) ?_ ?_; rotate_left
                ·intro w'
                 go_simp; with_reducible rfl
                rotate_left
                ·simp only [Act.put, qa9, qb9, qc9, i64_w, i32_w]
                 rfl
                refine pure_ (i := 3) (N := some 125) (v := ?_) (a' := ?_) q9_3 rfl rfl (any_of HT_.out (by kernel_rfl)) (fun _ _ _ h => h) (Or.inl ⟨by rfl, ?_⟩) ?_ ?_; rotate_left
                ·intro w'
                 go_simp; with_reducible rfl
                rotate_left
                ·simp only [Act.put, qa9, qb9, qc9, i64_w, i32_w]
                 rfl
                refine pure_ (i := 4) (N := some 126) (v := ?_) (a' := ?_) q9_4 rfl rfl (any_of HT_.out (by kernel_rfl)) (fun _ _ _ h => h) (Or.inl ⟨by rfl, ?_⟩) ?_ ?_; rotate_left
                ·intro w'
                 go_simp; with_reducible rfl
                rotate_left
                ·simp only [Act.put, qa9, qb9, qc9, i64_w, i32_w]
                 rfl
                refine pure_ (i := 6) (N := some 128) (v := ?_) (a' := ?_) q9_5 rfl rfl (any_of HT_.out (by kernel_rfl)) (fun _ _ _ h => h) (Or.inl ⟨by rfl, ?_⟩) ?_ ?_; rotate_left
                ·intro w'
                 go_simp; with_reducible rfl
                rotate_left
                ·simp only [Act.put, qa9, qb9, qc9, i64_w, i32_w]
                 rfl
                refine pure_ (i := 7) (N := some 129) (v := ?_) (a' := ?_) q9_6 rfl rfl (any_of HT_.out (by kernel_rfl)) (fun _ _ _ h => h) (Or.inl ⟨by rfl, ?_⟩) ?_ ?_; rotate_left
                ·intro w'
                 go_simp; with_reducible rfl
                rotate_left
                ·simp only [Act.put, qa9, qb9, qc9, i64_w, i32_w]
                 rfl
                refine take_ (i := 2) (N := some 124) (v := ?_) (a' := ?_) q9_7 rfl rfl (take_ofW HT_.out HW_.out (by kernel_rfl)) (fun _ _ _ h => h) (Or.inl ⟨by rfl, ?_⟩) hHeld ?_ ?_; rotate_left
                ·rintro w' ⟨s0, s1, s2⟩
                 go_simp; with_reducible rfl
                rotate_left
                ·simp only [Act.put, qa9, qb9, qc9, i64_w, i32_w]
                 rfl
                refine take_ (i := 5) (N := some 127) (v := ?_) (a' := ?_) q9_8 rfl rfl (take_ofW HT_.out HW_.out (by kernel_rfl)) (fun _ _ _ h => h) (Or.inl ⟨by rfl, ?_⟩) hHeld ?_ ?_; rotate_left
                ·rintro w' ⟨s0, s1, s2⟩
                 go_simp; with_reducible rfl
                rotate_left
                ·simp only [Act.put, qa9, qb9, qc9, i64_w, i32_w]
                 rfl
                refine take_ (i := 8) (N := some 130) (v := ?_) (a' := ?_) q9_9 rfl rfl (take_ofW HT_.out HW_.out (by kernel_rfl)) (fun _ _ _ h => h) (Or.inl ⟨by rfl, ?_⟩) hHeld ?_ ?_; rotate_left
                ·rintro w' ⟨s0, s1, s2⟩
                 go_simp; with_reducible rfl
                rotate_left
                ·simp only [Act.put, qa9, qb9, qc9, i64_w, i32_w]
                 rfl
                refine one_ (i := 9) (N := some 131) q9_10 rfl rfl (one_of HT_.out (by kernel_rfl)) (by decide) (fun K hK => ?_)
                refine goes_ Try.func43 (by kernel_rfl) rfl #[.slice A136_0 (rd_L2 x4_1 0).length c136_0, .slice A137_0 (rd_L2 x4_1 1).length c137_0, .slice A138_0 (rd_L2 x4_1 2).length c138_0] (by rfl) rfl rfl (by (try simp only [List.map_toArray, List.map_cons, List.map_nil]); first | done | rfl | (simp only [List.length_drop, List.length_take]; rfl)) ?_
                with_reducible refine (impl_CarrySave.calls kj28 (fun k_ => (True ∧ some k_ ≠ (.slice (some ad136) x4_1.length co19 : Value).ownBlock)) _ _ (rd_L2 x4_1 0) (fun k_ => (True ∧ some k_ ≠ (.slice (some ad136) x4_1.length co19 : Value).ownBlock)) _ _ (rd_L2 x4_1 1) (fun k_ => (True ∧ some k_ ≠ (.slice (some ad136) x4_1.length co19 : Value).ownBlock)) _ _ (rd_L2 x4_1 2) t139 t142 false _ ?side1 ?side2 ?side3 A56.out).mono ?_
                (case side1 => exact HL136_0.out)
                (case side2 => exact HL137_0.out)
                (case side3 => exact HL138_0.out)
                rintro e w88 ⟨v140, v143, rfl, ho0, ho1, hb⟩
                have HS0_ := (hb.cell (World.block_lt_of_cell? _ _ (hHeld.1))).trans (hHeld.1)
                have HS1_ := (hb.cell (World.block_lt_of_cell? _ _ (hHeld.2.1))).trans (hHeld.2.1)
                have HS2_ := (hb.cell (World.block_lt_of_cell? _ _ (hHeld.2.2))).trans (hHeld.2.2)
                refine ⟨_, rfl, ?_⟩
                have n0_ := Aside0.mk (Kd.N_mono (Kd.N_told (Kd.N_told (Kd.N_old (by (with_reducible repeat (first | apply Kd.N_alloc | apply Kd.N_drewN | apply Kd.N_drew)); exact HO_4.out) hb) (Kd.R_base ho0)) (Kd.R_base ho1)) (fun _ h_ => h_.1))
                have n1_ := Aside0.mk (Kd.V_mono (Kd.V_told (Kd.V_told (Kd.V_old (by (with_reducible repeat (first | apply Kd.V_alloc | apply Kd.V_drewN | apply Kd.V_drew)); exact HL136_0.out) hb) (Kd.R_base ho0)) (Kd.R_base ho1)) (fun _ h_ => h_.1))
                have n2_ := Aside0.mk (Kd.V_mono (Kd.V_told (Kd.V_told (Kd.V_old (by (with_reducible repeat (first | apply Kd.V_alloc | apply Kd.V_drewN | apply Kd.V_drew)); exact HL137_0.out) hb) (Kd.R_base ho0)) (Kd.R_base ho1)) (fun _ h_ => h_.1))
                have n3_ := Aside0.mk (Kd.V_mono (Kd.V_told (Kd.V_told (Kd.V_old (by (with_reducible repeat (first | apply Kd.V_alloc | apply Kd.V_drewN | apply Kd.V_drew)); exact HL138_0.out) hb) (Kd.R_base ho0)) (Kd.R_base ho1)) (fun _ h_ => h_.1))
                have n4_ := Aside0.mk (Kd.R_lower (Kd.R_mono (ok' := fun k_ => some k_ ≠ (v143 : Value).ownBlock) ho0 (fun _ hk_ => hk_.2)) (below_size (by repeat (first | (with_reducible first | exact HB.out | apply below_alloc | apply pw_below_drewN | apply below_drew1) | exact HB.out))))
                have n5_ := Aside0.mk (Kd.R_lower (Kd.R_mono (ok' := fun k_ => some k_ ≠ (v140 : Value).ownBlock) ho1 (fun _ hk_ => hk_.2)) (below_size (by repeat (first | (with_reducible first | exact HB.out | apply below_alloc | apply pw_below_drewN | apply below_drew1) | exact HB.out))))
                have n6_ := Aside0.mk (Kd.C_below (by repeat (first | (with_reducible exact HR136_0.out) | (with_reducible refine Kd.C_alloc ?_ _) | (with_reducible refine Kd.C_drewN ?_ _) | (with_reducible refine Kd.C_drew ?_) | exact HR136_0.out)) hb)
                have n7_ := Aside0.mk (Kd.C_below (by repeat (first | (with_reducible exact HR137_0.out) | (with_reducible refine Kd.C_alloc ?_ _) | (with_reducible refine Kd.C_drewN ?_ _) | (with_reducible refine Kd.C_drew ?_) | exact HR137_0.out)) hb)
                have n8_ := Aside0.mk (Kd.C_below (by repeat (first | (with_reducible exact HR138_0.out) | (with_reducible refine Kd.C_alloc ?_ _) | (with_reducible refine Kd.C_drewN ?_ _) | (with_reducible refine Kd.C_drew ?_) | exact HR138_0.out)) hb)
                have n9_ := Aside0.mk (below_step (by repeat (first | (with_reducible first | exact HB.out | apply below_alloc | apply pw_below_drewN | apply below_drew1) | exact HB.out)) hb)
                clear HO_4; clear HL136_0; clear HL137_0; clear HL138_0; clear HR136_0; clear HR137_0; clear HR138_0; clear HB
                have HO_4 := n0_
                have HL136_0 := n1_
                have HL137_0 := n2_
                have HL138_0 := n3_
                have HO141 := n4_
                have HO144 := n5_
                have HR136_0 := n6_
                have HR137_0 := n7_
                have HR138_0 := n8_
                have HB := n9_
                clear n0_ n1_ n2_ n3_ n4_ n5_ n6_ n7_ n8_ n9_
                (try clear hb)
                (try clear hb2)
                (try clear hk)
                (try clear hi)
                (try clear ho0)
                (try clear ho1)
                refine hK.out _ _ ⟨HS0_, HS1_, HS2_⟩ (fun hHeld => ?_)
                clear hK K
                refine norm_ (a' := ?_) ?_ ?_; rotate_left
                ·show Act.put _ (some 131) _ = _
                 simp only [Act.put, qa9, qb9, qc9, i64_w, i32_w]
                 rfl
                refine pure_ (i := 10) (N := some 121) (v := ?_) (a' := ?_) q9_11 rfl rfl (any_of HT_.out (by kernel_rfl)) (fun _ _ _ h => h) (Or.inl ⟨by rfl, ?_⟩) ?_ ?_; rotate_left
                ·intro w'
                 go_simp; with_reducible rfl
                rotate_left
                ·simp only [Act.put, qa9, qb9, qc9, i64_w, i32_w]
                 rfl
                refine pure_ (i := 11) (N := some 132) (v := ?_) (a' := ?_) q9_12 rfl rfl (any_of HT_.out (by kernel_rfl)) (fun _ _ _ h => h) (Or.inl ⟨by rfl, ?_⟩) ?_ ?_; rotate_left
                ·intro w'
                 go_simp; with_reducible rfl
                rotate_left
                ·simp only [Act.put, qa9, qb9, qc9, i64_w, i32_w]
                 rfl
                refine pure_ (i := 12) (N := some 133) (v := ?_) (a' := ?_) q9_13 rfl rfl (any_of HT_.out (by kernel_rfl)) (fun _ _ _ h => h) (Or.inl ⟨by rfl, ?_⟩) ?_ ?_; rotate_left
                ·intro w'
                 go_simp; with_reducible rfl
                rotate_left
                ·simp only [Act.put, qa9, qb9, qc9, i64_w, i32_w]
                 rfl
                refine pure_ (i := 13) (N := some 134) (v := ?_) (a' := ?_) q9_14 rfl rfl (any_of HT_.out (by kernel_rfl)) (fun _ _ _ h => h) (Or.inl ⟨by rfl, ?_⟩) ?_ ?_; rotate_left
                ·intro w'
                 go_simp; with_reducible rfl
                rotate_left
                ·simp only [Act.put, qa9, qb9, qc9, i64_w, i32_w]
                 rfl
                refine pure_ (i := 14) (N := some 17) (v := ?_) (a' := ?_) q9_15 rfl rfl (any_of HT_.out (by kernel_rfl)) (fun _ _ _ h => h) (Or.inl ⟨by rfl, ?_⟩) ?_ ?_; rotate_left
                ·intro w'
                 go_simp; with_reducible rfl
                rotate_left
                ·simp only [Act.put, qa9, qb9, qc9, i64_w, i32_w]
                 rfl
                refine pure_ (i := 15) (N := some 18) (v := ?_) (a' := ?_) q9_16 rfl rfl (any_of HT_.out (by kernel_rfl)) (fun _ _ _ h => h) (Or.inl ⟨by rfl, ?_⟩) ?_ ?_; rotate_left
                ·intro w'
                 go_simp; with_reducible rfl
                rotate_left
                ·simp only [Act.put, qa9, qb9, qc9, i64_w, i32_w]
                 rfl
                refine pure_ (i := 16) (N := some 19) (v := ?_) (a' := ?_) q9_17 rfl rfl (any_of HT_.out (by kernel_rfl)) (fun _ _ _ h => h) (Or.inl ⟨by rfl, ?_⟩) ?_ ?_; rotate_left
                ·intro w'
                 go_simp; with_reducible rfl
                rotate_left
                ·simp only [Act.put, qa9, qb9, qc9, i64_w, i32_w]
                 rfl
                refine done_ (done_of HT_.out (by kernel_rfl)) ?_
                try go_wp2
                have n0_ := Aside0.mk (Kd.N_drew HO_4.out)
                have n1_ := Aside0.mk (Kd.V_drew HL136_0.out)
                have n2_ := Aside0.mk (Kd.V_drew HL137_0.out)
                have n3_ := Aside0.mk (Kd.V_drew HL138_0.out)
                have n4_ := Aside0.mk (Kd.R_drew HO141.out)
                have n5_ := Aside0.mk (Kd.R_drew HO144.out)
                have n6_ := Aside0.mk (Kd.C_drew HR136_0.out)
                have n7_ := Aside0.mk (Kd.C_drew HR137_0.out)
                have n8_ := Aside0.mk (Kd.C_drew HR138_0.out)
                have n9_ := Aside0.mk (below_drew1 HB.out)
                clear HO_4; clear HL136_0; clear HL137_0; clear HL138_0; clear HO141; clear HO144; clear HR136_0; clear HR137_0; clear HR138_0; clear HB
                have HO_4 := n0_
                have HL136_0 := n1_
                have HL137_0 := n2_
                have HL138_0 := n3_
                have HO141 := n4_
                have HO144 := n5_
                have HR136_0 := n6_
                have HR137_0 := n7_
                have HR138_0 := n8_
                have HB := n9_
                clear n0_ n1_ n2_ n3_ n4_ n5_ n6_ n7_ n8_ n9_
                refine start_ (n := 45) (S := fun w' => True) (ds := []) q9_18 (by kernel_rfl) rfl rfl trivial (fun hHeld => ?_); refine with_tabW laws_FnCarrySave.tab25 laws_FnCarrySave.bits25 (fun HT_ HW_ => ?_)
                generalize w88.drew = w89 at HO_4 HL136_0 HL137_0 HL138_0 HO141 HO144 HR136_0 HR137_0 HR138_0 HB hHeld ⊢
                refine pure_ (i := 0) (N := some 135) (v := ?_) (a' := ?_) q9_19 rfl rfl (any_of HT_.out (by kernel_rfl)) (fun _ _ _ h => h) (Or.inl ⟨by rfl, ?_⟩) ?_ ?_; rotate_left
                ·intro w'
                 go_simp; with_reducible rfl
                rotate_left
                ·simp only [Act.put, qa9, qb9, qc9, i64_w, i32_w]
                 rfl
                refine pure_ (i := 1) (N := some 136) (v := ?_) (a' := ?_) q9_20 rfl rfl (any_of HT_.out (by kernel_rfl)) (fun _ _ _ h => h) (Or.inl ⟨by rfl, ?_⟩) ?_ ?_; rotate_left
                ·intro w'
                 go_simp; with_reducible rfl
                rotate_left
                ·simp only [Act.put, qa9, qb9, qc9, i64_w, i32_w]
                 rfl
                refine pure_ (i := 2) (N := some 137) (v := undef) (a' := ?_) q9_21 rfl rfl (any_of HT_.out (by kernel_rfl)) (fun _ _ _ h => h) (Or.inr ⟨by rfl, rfl⟩) ?_ ?_; rotate_left
                ·simp only [Act.put, qa9, qb9, qc9, i64_w, i32_w]
                 rfl
                refine pure_ (i := 3) (N := some 138) (v := undef) (a' := ?_) q9_22 rfl rfl (any_of HT_.out (by kernel_rfl)) (fun _ _ _ h => h) (Or.inr ⟨by rfl, rfl⟩) ?_ ?_; rotate_left
                ·simp only [Act.put, qa9, qb9, qc9, i64_w, i32_w]
                 rfl
                refine pure_ (i := 4) (N := some 139) (v := undef) (a' := ?_) q9_23 rfl rfl (any_of HT_.out (by kernel_rfl)) (fun _ _ _ h => h) (Or.inr ⟨by rfl, rfl⟩) ?_ ?_; rotate_left
                ·simp only [Act.put, qa9, qb9, qc9, i64_w, i32_w]
                 rfl
                refine pure_ (i := 5) (N := some 140) (v := undef) (a' := ?_) q9_24 rfl rfl (any_of HT_.out (by kernel_rfl)) (fun _ _ _ h => h) (Or.inr ⟨by rfl, rfl⟩) ?_ ?_; rotate_left
                ·simp only [Act.put, qa9, qb9, qc9, i64_w, i32_w]
                 rfl
                refine pure_ (i := 6) (N := some 141) (v := ?_) (a' := ?_) q9_25 rfl rfl (any_of HT_.out (by kernel_rfl)) (fun _ _ _ h => h) (Or.inl ⟨by rfl, ?_⟩) ?_ ?_; rotate_left
                ·intro w'
                 go_simp; with_reducible rfl
                rotate_left
                ·simp only [Act.put, qa9, qb9, qc9, i64_w, i32_w]
                 rfl
                refine pure_ (i := 7) (N := some 142) (v := ?_) (a' := ?_) q9_26 rfl rfl (any_of HT_.out (by kernel_rfl)) (fun _ _ _ h => h) (Or.inl ⟨by rfl, ?_⟩) ?_ ?_; rotate_left
                ·intro w'
                 go_simp; with_reducible rfl
                rotate_left
                ·simp only [Act.put, qa9, qb9, qc9, i64_w, i32_w]
                 rfl
                refine pure_ (i := 8) (N := some 143) (v := undef) (a' := ?_) q9_27 rfl rfl (any_of HT_.out (by kernel_rfl)) (fun _ _ _ h => h) (Or.inr ⟨by rfl, rfl⟩) ?_ ?_; rotate_left
                ·simp only [Act.put, qa9, qb9, qc9, i64_w, i32_w]
                 rfl
                refine pure_ (i := 9) (N := some 144) (v := undef) (a' := ?_) q9_28 rfl rfl (any_of HT_.out (by kernel_rfl)) (fun _ _ _ h => h) (Or.inr ⟨by rfl, rfl⟩) ?_ ?_; rotate_left
                ·simp only [Act.put, qa9, qb9, qc9, i64_w, i32_w]
                 rfl
                refine pure_ (i := 10) (N := some 145) (v := undef) (a' := ?_) q9_29 rfl rfl (any_of HT_.out (by kernel_rfl)) (fun _ _ _ h => h) (Or.inr ⟨by rfl, rfl⟩) ?_ ?_; rotate_left
                ·simp only [Act.put, qa9, qb9, qc9, i64_w, i32_w]
                 rfl
                refine pure_ (i := 11) (N := some 146) (v := undef) (a' := ?_) q9_30 rfl rfl (any_of HT_.out (by kernel_rfl)) (fun _ _ _ h => h) (Or.inr ⟨by rfl, rfl⟩) ?_ ?_; rotate_left
                ·simp only [Act.put, qa9, qb9, qc9, i64_w, i32_w]
                 rfl
                refine pure_ (i := 12) (N := some 147) (v := ?_) (a' := ?_) q9_31 rfl rfl (any_of HT_.out (by kernel_rfl)) (fun _ _ _ h => h) (Or.inl ⟨by rfl, ?_⟩) ?_ ?_; rotate_left
                ·intro w'
                 go_simp; with_reducible rfl
                rotate_left
                ·simp only [Act.put, qa9, qb9, qc9, i64_w, i32_w]
                 rfl
                refine pure_ (i := 13) (N := some 148) (v := ?_) (a' := ?_) q9_32 rfl rfl (any_of HT_.out (by kernel_rfl)) (fun _ _ _ h => h) (Or.inl ⟨by rfl, ?_⟩) ?_ ?_; rotate_left
                ·intro w'
                 go_simp; with_reducible rfl
                rotate_left
                ·simp only [Act.put, qa9, qb9, qc9, i64_w, i32_w]
                 rfl
                refine pure_ (i := 14) (N := some 149) (v := undef) (a' := ?_) q9_33 rfl rfl (any_of HT_.out (by kernel_rfl)) (fun _ _ _ h => h) (Or.inr ⟨by rfl, rfl⟩) ?_ ?_; rotate_left
                ·simp only [Act.put, qa9, qb9, qc9, i64_w, i32_w]
                 rfl
                refine pure_ (i := 15) (N := some 150) (v := undef) (a' := ?_) q9_34 rfl rfl (any_of HT_.out (by kernel_rfl)) (fun _ _ _ h => h) (Or.inr ⟨by rfl, rfl⟩) ?_ ?_; rotate_left
                ·simp only [Act.put, qa9, qb9, qc9, i64_w, i32_w]
                 rfl
                refine pure_ (i := 16) (N := some 151) (v := undef) (a' := ?_) q9_35 rfl rfl (any_of HT_.out (by kernel_rfl)) (fun _ _ _ h => h) (Or.inr ⟨by rfl, rfl⟩) ?_ ?_; rotate_left
                ·simp only [Act.put, qa9, qb9, qc9, i64_w, i32_w]
                 rfl
                refine pure_ (i := 17) (N := some 152) (v := undef) (a' := ?_) q9_36 rfl rfl (any_of HT_.out (by kernel_rfl)) (fun _ _ _ h => h) (Or.inr ⟨by rfl, rfl⟩) ?_ ?_; rotate_left
                ·simp only [Act.put, qa9, qb9, qc9, i64_w, i32_w]
                 rfl
                refine pure_ (i := 18) (N := some 153) (v := ?_) (a' := ?_) q9_37 rfl rfl (any_of HT_.out (by kernel_rfl)) (fun _ _ _ h => h) (Or.inl ⟨by rfl, ?_⟩) ?_ ?_; rotate_left
                ·intro w'
                 go_simp; with_reducible rfl
                rotate_left
                ·simp only [Act.put, qa9, qb9, qc9, i64_w, i32_w]
                 rfl
                refine pure_ (i := 19) (N := some 154) (v := ?_) (a' := ?_) q9_38 rfl rfl (any_of HT_.out (by kernel_rfl)) (fun _ _ _ h => h) (Or.inl ⟨by rfl, ?_⟩) ?_ ?_; rotate_left
                ·intro w'
                 go_simp; with_reducible rfl
                rotate_left
                ·simp only [Act.put, qa9, qb9, qc9, i64_w, i32_w]
                 rfl
                refine pure_ (i := 20) (N := some 155) (v := undef) (a' := ?_) q9_39 rfl rfl (any_of HT_.out (by kernel_rfl)) (fun _ _ _ h => h) (Or.inr ⟨by rfl, rfl⟩) ?_ ?_; rotate_left
                ·simp only [Act.put, qa9, qb9, qc9, i64_w, i32_w]
                 rfl
                refine pure_ (i := 21) (N := some 156) (v := undef) (a' := ?_) q9_64 rfl rfl (any_of HT_.out (by kernel_rfl)) (fun _ _ _ h => h) (Or.inr ⟨by rfl, rfl⟩) ?_ ?_; rotate_left
                ·simp only [Act.put, qa9, qb9, qc9, i64_w, i32_w]
                 rfl
                refine pure_ (i := 22) (N := some 157) (v := undef) (a' := ?_) q9_65 rfl rfl (any_of HT_.out (by kernel_rfl)) (fun _ _ _ h => h) (Or.inr ⟨by rfl, rfl⟩) ?_ ?_; rotate_left
                ·simp only [Act.put, qa9, qb9, qc9, i64_w, i32_w]
                 rfl
                refine pure_ (i := 23) (N := some 158) (v := undef) (a' := ?_) q9_66 rfl rfl (any_of HT_.out (by kernel_rfl)) (fun _ _ _ h => h) (Or.inr ⟨by rfl, rfl⟩) ?_ ?_; rotate_left
                ·simp only [Act.put, qa9, qb9, qc9, i64_w, i32_w]
                 rfl
                refine pure_ (i := 24) (N := some 159) (v := undef) (a' := ?_) q9_67 rfl rfl (any_of HT_.out (by kernel_rfl)) (fun _ _ _ h => h) (Or.inr ⟨by rfl, rfl⟩) ?_ ?_; rotate_left
                ·simp only [Act.put, qa9, qb9, qc9, i64_w, i32_w]
                 rfl
                refine pure_ (i := 25) (N := some 160) (v := undef) (a' := ?_) q9_68 rfl rfl (any_of HT_.out (by kernel_rfl)) (fun _ _ _ h => h) (Or.inr ⟨by rfl, rfl⟩) ?_ ?_; rotate_left
                ·simp only [Act.put, qa9, qb9, qc9, i64_w, i32_w]
                 rfl
                refine pure_ (i := 26) (N := some 161) (v := undef) (a' := ?_) q9_69 rfl rfl (any_of HT_.out (by kernel_rfl)) (fun _ _ _ h => h) (Or.inr ⟨by rfl, rfl⟩) ?_ ?_; rotate_left
                ·simp only [Act.put, qa9, qb9, qc9, i64_w, i32_w]
                 rfl
                refine pure_ (i := 27) (N := some 162) (v := undef) (a' := ?_) q9_70 rfl rfl (any_of HT_.out (by kernel_rfl)) (fun _ _ _ h => h) (Or.inr ⟨by rfl, rfl⟩) ?_ ?_; rotate_left
                ·simp only [Act.put, qa9, qb9, qc9, i64_w, i32_w]
                 rfl
                refine pure_ (i := 28) (N := some 163) (v := undef) (a' := ?_) q9_71 rfl rfl (any_of HT_.out (by kernel_rfl)) (fun _ _ _ h => h) (Or.inr ⟨by rfl, rfl⟩) ?_ ?_; rotate_left
                ·simp only [Act.put, qa9, qb9, qc9, i64_w, i32_w]
                 rfl
                refine pure_ (i := 29) (N := some 164) (v := undef) (a' := ?_) q9_72 rfl rfl (any_of HT_.out (by kernel_rfl)) (fun _ _ _ h => h) (Or.inr ⟨by rfl, rfl⟩) ?_ ?_; rotate_left
                ·simp only [Act.put, qa9, qb9, qc9, i64_w, i32_w]
                 rfl
                refine pure_ (i := 30) (N := some 165) (v := undef) (a' := ?_) q9_73 rfl rfl (any_of HT_.out (by kernel_rfl)) (fun _ _ _ h => h) (Or.inr ⟨by rfl, rfl⟩) ?_ ?_; rotate_left
                ·simp only [Act.put, qa9, qb9, qc9, i64_w, i32_w]
                 rfl
                refine pure_ (i := 31) (N := some 166) (v := undef) (a' := ?_) q9_74 rfl rfl (any_of HT_.out (by kernel_rfl)) (fun _ _ _ h => h) (Or.inr ⟨by rfl, rfl⟩) ?_ ?_; rotate_left
                ·simp only [Act.put, qa9, qb9, qc9, i64_w, i32_w]
                 rfl
                refine pure_ (i := 32) (N := some 167) (v := undef) (a' := ?_) q9_75 rfl rfl (any_of HT_.out (by kernel_rfl)) (fun _ _ _ h => h) (Or.inr ⟨by rfl, rfl⟩) ?_ ?_; rotate_left
                ·simp only [Act.put, qa9, qb9, qc9, i64_w, i32_w]
                 rfl
                refine pure_ (i := 33) (N := some 168) (v := undef) (a' := ?_) q9_76 rfl rfl (any_of HT_.out (by kernel_rfl)) (fun _ _ _ h => h) (Or.inr ⟨by rfl, rfl⟩) ?_ ?_; rotate_left
                ·simp only [Act.put, qa9, qb9, qc9, i64_w, i32_w]
                 rfl
                refine pure_ (i := 34) (N := some 169) (v := undef) (a' := ?_) q9_77 rfl rfl (any_of HT_.out (by kernel_rfl)) (fun _ _ _ h => h) (Or.inr ⟨by rfl, rfl⟩) ?_ ?_; rotate_left
                ·simp only [Act.put, qa9, qb9, qc9, i64_w, i32_w]
                 rfl
                refine pure_ (i := 35) (N := some 170) (v := undef) (a' := ?_) q9_78 rfl rfl (any_of HT_.out (by kernel_rfl)) (fun _ _ _ h => h) (Or.inr ⟨by rfl, rfl⟩) ?_ ?_; rotate_left
                ·simp only [Act.put, qa9, qb9, qc9, i64_w, i32_w]
                 rfl
                refine pure_ (i := 36) (N := some 171) (v := undef) (a' := ?_) q9_79 rfl rfl (any_of HT_.out (by kernel_rfl)) (fun _ _ _ h => h) (Or.inr ⟨by rfl, rfl⟩) ?_ ?_; rotate_left
                ·simp only [Act.put, qa9, qb9, qc9, i64_w, i32_w]
                 rfl
                refine pure_ (i := 37) (N := some 172) (v := undef) (a' := ?_) q9_80 rfl rfl (any_of HT_.out (by kernel_rfl)) (fun _ _ _ h => h) (Or.inr ⟨by rfl, rfl⟩) ?_ ?_; rotate_left
                ·simp only [Act.put, qa9, qb9, qc9, i64_w, i32_w]
                 rfl
                refine pure_ (i := 38) (N := some 173) (v := undef) (a' := ?_) q9_81 rfl rfl (any_of HT_.out (by kernel_rfl)) (fun _ _ _ h => h) (Or.inr ⟨by rfl, rfl⟩) ?_ ?_; rotate_left
                ·simp only [Act.put, qa9, qb9, qc9, i64_w, i32_w]
                 rfl
                refine pure_ (i := 39) (N := some 174) (v := undef) (a' := ?_) q9_82 rfl rfl (any_of HT_.out (by kernel_rfl)) (fun _ _ _ h => h) (Or.inr ⟨by rfl, rfl⟩) ?_ ?_; rotate_left
                ·simp only [Act.put, qa9, qb9, qc9, i64_w, i32_w]
                 rfl
                refine pure_ (i := 40) (N := some 175) (v := undef) (a' := ?_) q9_59 rfl rfl (any_of HT_.out (by kernel_rfl)) (fun _ _ _ h => h) (Or.inr ⟨by rfl, rfl⟩) ?_ ?_; rotate_left
                ·simp only [Act.put, qa9, qb9, qc9, i64_w, i32_w]
                 rfl
                refine pure_ (i := 41) (N := some 176) (v := undef) (a' := ?_) q9_60 rfl rfl (any_of HT_.out (by kernel_rfl)) (fun _ _ _ h => h) (Or.inr ⟨by rfl, rfl⟩) ?_ ?_; rotate_left
                ·simp only [Act.put, qa9, qb9, qc9, i64_w, i32_w]
                 rfl
                refine pure_ (i := 42) (N := some 177) (v := undef) (a' := ?_) q9_61 rfl rfl (any_of HT_.out (by kernel_rfl)) (fun _ _ _ h => h) (Or.inr ⟨by rfl, rfl⟩) ?_ ?_; rotate_left
                ·simp only [Act.put, qa9, qb9, qc9, i64_w, i32_w]
                 rfl
                refine pure_ (i := 43) (N := some 178) (v := ?_) (a' := ?_) q9_62 rfl rfl (any_of HT_.out (by kernel_rfl)) (fun _ _ _ h => h) (Or.inl ⟨by rfl, ?_⟩) ?_ ?_; rotate_left
                ·intro w'
                 go_simp; with_reducible rfl
                rotate_left
                ·simp only [Act.put, qa9, qb9, qc9, i64_w, i32_w]
                 rfl
                refine pure_ (i := 44) (N := some 2) (v := ?_) (a' := ?_) q9_63 rfl rfl (any_of HT_.out (by kernel_rfl)) (fun _ _ _ h => h) (Or.inl ⟨by rfl, ?_⟩) ?_ ?_; rotate_left
                ·intro w'
                 go_simp; with_reducible rfl
                rotate_left
                ·simp only [Act.put, qa9, qb9, qc9, i64_w, i32_w]
                 rfl
                refine done_ (done_of HT_.out (by kernel_rfl)) ?_
                try go_wp2
                go_ret
                exact ⟨by first | rfl | (simp [errW_none, errW_some] <;> rfl) | (simp [*, errW_none, errW_some] <;> rfl), by repeat (first | (with_reducible first | exact HB.out | apply below_alloc | apply pw_below_drewN | apply below_drew1) | exact HB.out)⟩
              ·rw [if_neg c55] at H
               exact absurd H (by simp)
             ·rw [if_neg c54] at H
              exact absurd H (by simp)
            ·rw [if_neg c53] at H
             exact absurd H (by simp)

/-- THE ONE PURE STATEMENT of laws_FnCarrySave: yours. -/
def laws_FnCarrySave.Pure : Prop := ∀ (l0 : List Int), l0.length ≤ maxLen → l0.length * 1 ≤ 140737488351232 → (∀ x ∈ l0, (Lit.int .u8 x).wf = true) → ∃ k, laws_FnCarrySave.f k l0 = some true
theorem laws_FnCarrySave.walk (P : laws_FnCarrySave.Pure) (a0 : Option Addr) (len0 cap0 : Nat) (z0 : List Int) (w : World) (w0 : (a0 = none ∧ len0 = 0 ∧ cap0 = 0 ∧ z0 = []) ∨ ∃ x, a0 = some x ∧ len0 ≤ cap0 ∧ cap0 ≤ maxLen ∧ z0.length = cap0 ∧ (∀ i, i < z0.length → w.cell? (x.add i) = some (.int .u8 (z0.getD i 0))) ∧ ∀ n ∈ z0, (Lit.int .u8 n).wf = true) (y0 : len0 * 1 ≤ 140737488351232) :
  Calls Try.prog 9 #[.slice a0 len0 cap0] w fun e w' => e = .returned (.bool true) ∧ Below w.heap.size w w' := by
 obtain ⟨l0, rfl, hr0, hm0, hw0, hc0⟩ := ReadsInt.ofRowC w0
 obtain ⟨k, h⟩ := P l0 hm0 y0 hw0
 refine (laws_FnCarrySave.calls k _ _ l0 true w (Kd.C_of_reads (d := (0 : Int)) (h1 := fun _ => rfl) hr0) hc0 h).mono ?_
 rintro e w' ⟨rfl, hd⟩
 exact ⟨rfl, hd⟩

end Go.Proofs.Ytcgfcnpiekcofaa.P
