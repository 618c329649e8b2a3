/- What functions of the program come to, each with the proof that it does, laid by a program of this session out of the translation; no condition is set on any claim. -/
import Derived.Test.YtffhddibgfaopaaDoorProg
import Derived.Below
import Derived.Deep.Draws
import Derived.Deep.AppendLies
import Derived.Maps.AppendAt
import Derived.OwnWalk
import Derived.Laws.BytesArg
import Derived.Laws.MakeOwn
import Derived.Laws.OwnMore
import Derived.Deep.OwnRows
import Derived.Tactics
import Derived.Lib.ConvBytes
import Derived.Laws.Slices
import Derived.WalkKit
import Derived.KernelRfl
import Derived.RowKit3
import Derived.Deep.LoopGhost
import Derived.Deep.QuietTactic
import Derived.BigQuiet
import Derived.WideLaws
import Derived.Deep.DeepCutAuto
import Derived.Deep.CutBlock
import Derived.Deep.RegionHeld3
import Derived.Laws.Rows
import Derived.Lib.AppendStr
import Derived.ArgAppend
import Derived.Laws.IdiomCopy
import Derived.OrdersHeld
import Derived.Laws.BitsLemmas
import Derived.RowKit
import Derived.Test.YtffhddibgfaopaaDoorZDpWWords
import Derived.Test.YtffhddibgfaopaaDoorZDpWLast
import Derived.Test.YtffhddibgfaopaaDoorZDpWTab
import Derived.Test.YtffhddibgfaopaaDoorZDpWFour
import Derived.Test.YtffhddibgfaopaaDoorZDpWQPut
import Derived.Test.YtffhddibgfaopaaDoorZDpWApart
import Derived.Test.YtffhddibgfaopaaDoorZDpWArr
import Derived.Test.YtffhddibgfaopaaDoorZDpWZeros
import Derived.Test.YtffhddibgfaopaaDoorZDpWFoot
import Derived.Test.YtffhddibgfaopaaDoorZDpWKept
import Derived.Test.YtffhddibgfaopaaDoorZDpWShare
import Derived.Test.YtffhddibgfaopaaDoorZDpWN
import Derived.Test.YtffhddibgfaopaaDoorZDpWFootNe
import Derived.Test.YtffhddibgfaopaaDoorZDpWAt
import Derived.Test.YtffhddibgfaopaaDoorZDpWEqStruct
import Derived.Test.YtffhddibgfaopaaDoorZDpWRepsOne
import Derived.Test.YtffhddibgfaopaaDoorZDpWInv
import Derived.Test.YtffhddibgfaopaaDoorZDpWInvWords
import Derived.Test.YtffhddibgfaopaaDoorZDpWGuard
import Derived.Test.YtffhddibgfaopaaDoorZDpWNEv
import Derived.Test.YtffhddibgfaopaaDoorZDpWMore
namespace Go.Proofs.YtffhddibgfaopaaDoor.P
open Go.RowKit Go.Proofs.YtffhddibgfaopaaDoorW.PrintWords Go.Proofs.YtffhddibgfaopaaDoorW.PrintLast Go.Proofs.YtffhddibgfaopaaDoorW.PrintMore
attribute [local go_sem] max2_int min2_int max_two min_two max_three min_three max_four min_four   -- for this text's walks alone
set_option linter.unusedVariables false
set_option linter.unusedSimpArgs false

def errW : Option Int → Value
  | none => .nilIface
  | some c => .iface 0 (.int .i64 c)
theorem errW_none : errW none = .nilIface := rfl
theorem errW_some (c : Int) : errW (some c) = .iface 0 (.int .i64 c) := rfl

/-- What lies below stays, over new blocks, draws and stores into what is new. -/
theorem bB {B : Nat} {w W W' : World} (h : Below B w W) (m : Below B w W → Below B w W' := by intro h_; repeat (first | (with_reducible first | exact h_ | apply below_alloc | apply pw_below_drewN | apply below_drew1 | refine below_set ?_ (Aside0.out (by assumption))) | exact h_)) : Below B w W' := m h

theorem info3 : (Tryd.prog.info? 3).map (fun i => (i.zero, i.size, i.bytes)) = some (some (.int .i64 0), 1, 8) := by kernel_rfl
-- the values' own types

/-! #### struct type 24 -/

end Go.Proofs.YtffhddibgfaopaaDoor.P
