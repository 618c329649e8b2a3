/- What functions of the program come to, each with the proof that it does, laid by a program of this session out of the translation; no condition is set on any claim. -/
import Derived.Test.YtffhddibgfaopaaDoorProg
import Derived.Below
import Derived.Deep.Draws
import Derived.Deep.AppendLies
import Derived.Maps.AppendAt
import Derived.OwnWalk
import Derived.Laws.BytesArg
import Derived.Laws.MakeOwn
import Derived.Laws.OwnMore
import Derived.Deep.OwnRows
import Derived.Tactics
import Derived.Lib.ConvBytes
import Derived.Laws.Slices
import Derived.WalkKit
import Derived.KernelRfl
import Derived.RowKit3
import Derived.Deep.LoopGhost
import Derived.Deep.QuietTactic
import Derived.BigQuiet
import Derived.WideLaws
import Derived.Deep.DeepCutAuto
import Derived.Deep.CutBlock
import Derived.Deep.RegionHeld3
import Derived.Laws.Rows
import Derived.Lib.AppendStr
import Derived.ArgAppend
import Derived.Laws.IdiomCopy
import Derived.OrdersHeld
import Derived.Laws.BitsLemmas
import Derived.RowKit
import Derived.Test.YtffhddibgfaopaaDoorZDfWWords
import Derived.Test.YtffhddibgfaopaaDoorZDfWLast
import Derived.Test.YtffhddibgfaopaaDoorZDfWTab
import Derived.Test.YtffhddibgfaopaaDoorZDfWFour
import Derived.Test.YtffhddibgfaopaaDoorZDfWQPut
import Derived.Test.YtffhddibgfaopaaDoorZDfWApart
import Derived.Test.YtffhddibgfaopaaDoorZDfWArr
import Derived.Test.YtffhddibgfaopaaDoorZDfWZeros
import Derived.Test.YtffhddibgfaopaaDoorZDfWFoot
import Derived.Test.YtffhddibgfaopaaDoorZDfWKept
import Derived.Test.YtffhddibgfaopaaDoorZDfWShare
import Derived.Test.YtffhddibgfaopaaDoorZDfWN
import Derived.Test.YtffhddibgfaopaaDoorZDfWFootNe
import Derived.Test.YtffhddibgfaopaaDoorZDfWAt
import Derived.Test.YtffhddibgfaopaaDoorZDfWEqStruct
import Derived.Test.YtffhddibgfaopaaDoorZDfWRepsOne
import Derived.Test.YtffhddibgfaopaaDoorZDfWInv
import Derived.Test.YtffhddibgfaopaaDoorZDfWInvWords
import Derived.Test.YtffhddibgfaopaaDoorZDfWGuard
import Derived.Test.YtffhddibgfaopaaDoorZDfWNEv
import Derived.Test.YtffhddibgfaopaaDoorZDfWMore
namespace Go.Proofs.YtffhddibgfaopaaDoor.P
open Go.RowKit Go.Proofs.YtffhddibgfaopaaDoorW.PrintWords Go.Proofs.YtffhddibgfaopaaDoorW.PrintLast Go.Proofs.YtffhddibgfaopaaDoorW.PrintMore
attribute [local go_sem] max2_int min2_int max_two min_two max_three min_three max_four min_four   -- for this text's walks alone
set_option linter.unusedVariables false
set_option linter.unusedSimpArgs false

def errW : Option Int → Value
  | none => .nilIface
  | some c => .iface 0 (.int .i64 c)
theorem errW_none : errW none = .nilIface := rfl
theorem errW_some (c : Int) : errW (some c) = .iface 0 (.int .i64 c) := rfl

/-- What lies below stays, over new blocks, draws and stores into what is new. -/
theorem bB {B : Nat} {w W W' : World} (h : Below B w W) (m : Below B w W → Below B w W' := by intro h_; repeat (first | (with_reducible first | exact h_ | apply below_alloc | apply pw_below_drewN | apply below_drew1 | refine below_set ?_ (Aside0.out (by assumption))) | exact h_)) : Below B w W' := m h

theorem info3 : (Tryd.prog.info? 3).map (fun i => (i.zero, i.size, i.bytes)) = some (some (.int .i64 0), 1, 8) := by kernel_rfl
theorem info5 : (Tryd.prog.info? 5).map (fun i => (i.zero, i.size, i.bytes)) = some (some (.int .u8 0), 1, 1) := by kernel_rfl
-- the values' own types

/-! #### struct type 24 -/
structure S24 where
  f0 : (List Int)
  f1 : Int
def k24 : Kd S24 := Kd.iso (Kd.pair (Kd.slice 3 (Kd.int .i64)) (Kd.int .i64)) (fun x : S24 => (x.f0, x.f1))
theorem k24_open {w : World} {x : S24} {cs : List Value} (h : k24.K w x cs) : ∃ A0 c0, cs = [.slice A0 x.f0.length c0, .int .i64 x.f1] ∧ x.f0.length ≤ c0 ∧ (Kd.int .i64).C w A0 x.f0.length x.f0 := by
  obtain ⟨_, _, rfl, ⟨A0, c0, rfl, l0, g0⟩, rfl⟩ := h
  exact ⟨A0, c0, rfl, l0, g0⟩

end Go.Proofs.YtffhddibgfaopaaDoor.P
