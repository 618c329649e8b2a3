/- Plain facts on floating numbers of six digits; no program is in sight, and no condition is set on any claim. -/
import Derived.Test.YtffhddibgfaopaaDoorZDpTern
namespace Go.Proofs.YtffhddibgfaopaaDoor.Tern
/-- How many digits a number has, without zeros at the top. -/
def len3 (n : Int) : Nat := if h : n = 0 then 0 else len3 (rest3 n) + 1
  termination_by n.natAbs
  decreasing_by unfold rest3; omega

/-- A number of floating digits: six digits at most, the highest ones, and the exponent. -/
def digs (v : Int) : List Int := (List.replicate 6 0 ++ word v (len3 v)).drop (len3 v)

/-- A floating number that is valid: six digits, the highest one not 0; or all of 0. -/
def Fl (d : List Int) (e : Int) : Prop := d.length = 6 ∧ Trits d ∧ -20 ≤ e ∧ e ≤ 20 ∧ (d.getD 5 0 ≠ 0 ∨ (val d = 0 ∧ e = 0))
instance (d : List Int) (e : Int) : Decidable (Fl d e) := by unfold Fl; exact inferInstance

/-- The number that is left of v when six digits are kept. -/
def kept (v : Int) : Int := if len3 v ≤ 6 then v else val (digs v) * pow3 (len3 v - 6)

end Go.Proofs.YtffhddibgfaopaaDoor.Tern
