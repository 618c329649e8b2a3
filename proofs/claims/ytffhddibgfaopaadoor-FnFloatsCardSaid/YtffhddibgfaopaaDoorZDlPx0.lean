/- What functions of the program come to, each with the proof that it does, laid by a program of this session out of the translation; no condition is set on any claim. -/
import Derived.Test.YtffhddibgfaopaaDoorProg
import Derived.Below
import Derived.Deep.Draws
import Derived.Deep.AppendLies
import Derived.Maps.AppendAt
import Derived.OwnWalk
import Derived.Laws.BytesArg
import Derived.Laws.MakeOwn
import Derived.Laws.OwnMore
import Derived.Deep.OwnRows
import Derived.Tactics
import Derived.Lib.ConvBytes
import Derived.Laws.Slices
import Derived.WalkKit
import Derived.KernelRfl
import Derived.RowKit3
import Derived.Deep.LoopGhost
import Derived.Deep.QuietTactic
import Derived.BigQuiet
import Derived.WideLaws
import Derived.Deep.DeepCutAuto
import Derived.Deep.CutBlock
import Derived.Deep.RegionHeld3
import Derived.Laws.Rows
import Derived.Lib.AppendStr
import Derived.ArgAppend
import Derived.Laws.IdiomCopy
import Derived.OrdersHeld
import Derived.Laws.BitsLemmas
import Derived.RowKit
import Derived.Test.YtffhddibgfaopaaDoorZDlWWords
import Derived.Test.YtffhddibgfaopaaDoorZDlWLast
import Derived.Test.YtffhddibgfaopaaDoorZDlWTab
import Derived.Test.YtffhddibgfaopaaDoorZDlWFour
import Derived.Test.YtffhddibgfaopaaDoorZDlWQPut
import Derived.Test.YtffhddibgfaopaaDoorZDlWApart
import Derived.Test.YtffhddibgfaopaaDoorZDlWArr
import Derived.Test.YtffhddibgfaopaaDoorZDlWZeros
import Derived.Test.YtffhddibgfaopaaDoorZDlWFoot
import Derived.Test.YtffhddibgfaopaaDoorZDlWKept
import Derived.Test.YtffhddibgfaopaaDoorZDlWShare
import Derived.Test.YtffhddibgfaopaaDoorZDlWN
import Derived.Test.YtffhddibgfaopaaDoorZDlWFootNe
import Derived.Test.YtffhddibgfaopaaDoorZDlWAt
import Derived.Test.YtffhddibgfaopaaDoorZDlWEqStruct
import Derived.Test.YtffhddibgfaopaaDoorZDlWRepsOne
import Derived.Test.YtffhddibgfaopaaDoorZDlWInv
import Derived.Test.YtffhddibgfaopaaDoorZDlWInvWords
import Derived.Test.YtffhddibgfaopaaDoorZDlWGuard
import Derived.Test.YtffhddibgfaopaaDoorZDlWNEv
import Derived.Test.YtffhddibgfaopaaDoorZDlWMore
namespace Go.Proofs.YtffhddibgfaopaaDoor.P
open Go.RowKit Go.Proofs.YtffhddibgfaopaaDoorW.PrintWords Go.Proofs.YtffhddibgfaopaaDoorW.PrintLast Go.Proofs.YtffhddibgfaopaaDoorW.PrintMore
attribute [local go_sem] max2_int min2_int max_two min_two max_three min_three max_four min_four   -- for this text's walks alone
set_option linter.unusedVariables false
set_option linter.unusedSimpArgs false

def errW : Option Int → Value
  | none => .nilIface
  | some c => .iface 0 (.int .i64 c)
theorem errW_none : errW none = .nilIface := rfl
theorem errW_some (c : Int) : errW (some c) = .iface 0 (.int .i64 c) := rfl

/-- What lies below stays, over new blocks, draws and stores into what is new. -/
theorem bB {B : Nat} {w W W' : World} (h : Below B w W) (m : Below B w W → Below B w W' := by intro h_; repeat (first | (with_reducible first | exact h_ | apply below_alloc | apply pw_below_drewN | apply below_drew1 | refine below_set ?_ (Aside0.out (by assumption))) | exact h_)) : Below B w W' := m h

theorem info3 : (Tryd.prog.info? 3).map (fun i => (i.zero, i.size, i.bytes)) = some (some (.int .i64 0), 1, 8) := by kernel_rfl
theorem info5 : (Tryd.prog.info? 5).map (fun i => (i.zero, i.size, i.bytes)) = some (some (.int .u8 0), 1, 1) := by kernel_rfl
-- the values' own types
def rd_L3 (xs : List (List Int)) (i : Int) : (List Int) := xs.getD i.toNat ([] : List Int)
theorem at_L3 {w : World} {A : Option Addr} {n : Nat} {xs : List (List Int)} (h : Kd.C (Kd.slice 3 (Kd.int .i64)) w A n xs) (i : Int) (h0 : 0 ≤ i) (h1 : i < n) : ∃ ad A0 c0, A = some ad ∧ w.cell? (ad.add i.toNat) = some (.slice A0 (rd_L3 xs i).length c0) ∧ (rd_L3 xs i).length ≤ c0 ∧ (Kd.int .i64).C w A0 (rd_L3 xs i).length (rd_L3 xs i) := by
  obtain ⟨ad, c, e, _, hK, hc0⟩ := Kd.C_get h ([] : List Int) i h0 h1
  have hc : ∀ j u, c[j]? = some u → w.cell? (ad.add (i.toNat * 1 + j)) = some u := hc0
  obtain ⟨A0, c0, rfl, l0, g0⟩ := hK
  exact ⟨ad, A0, c0, e, by have hq := hc 0 _ rfl; rwa [Nat.mul_one, Nat.add_zero] at hq, l0, g0⟩

/-! #### struct type 24 -/

end Go.Proofs.YtffhddibgfaopaaDoor.P
