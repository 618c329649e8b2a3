/- The one-word floats of floating numbers, in their order; no condition is set on any claim. -/
import Derived.Laws.Cover2
import Derived.Laws.FloatArith
namespace Go.Proofs.Ytffhddibgfaopaa.P
open Go
set_option linter.unusedVariables false
/-- Three, as a float of 64 bits. -/
abbrev c3 : Nat := 4613937818241073152
def mulN : Nat → Nat → Option Nat
  | 0, x => some x
  | n + 1, x => (FloatKind.f64.format.mul x c3).bind (mulN n)
def divN : Nat → Nat → Option Nat
  | 0, x => some x
  | n + 1, x => (FloatKind.f64.format.div x c3).bind (divN n)
/-- What a float of 32 bits stands for, in units of its least one. -/
def rank32 (r : Nat) : Option Int := match FloatKind.f32.format.read r with
  | .number s m i => if -149 ≤ i then some (Ieee.signed s m (i + 149).toNat) else none
  | _ => none
def cmp3 (a b : Int) : Ordering := if a < b then .lt else if a = b then .eq else .gt
theorem compare_cmp3 (a b : Int) : compare a b = cmp3 a b := rfl
theorem signed_more (s : Bool) (m k d : Nat) : Ieee.signed s m (k + d) = Ieee.signed s m k * 2 ^ d := by
  unfold Ieee.signed
  have h : (((m <<< (k + d) : Nat) : Int)) = (m <<< k : Nat) * 2 ^ d := by
    rw [Nat.shiftLeft_eq, Nat.shiftLeft_eq, Nat.pow_add]
    push_cast
    rw [Int.mul_assoc]
  cases s
  · simpa using h
  · simp only [↓reduceIte]; rw [h, Int.neg_mul]
theorem cmp3_mul (a b p : Int) (hp : 0 < p) : cmp3 (a * p) (b * p) = cmp3 a b := by
  unfold cmp3
  by_cases h : a < b
  · rw [if_pos h, if_pos (Int.mul_lt_mul_of_pos_right h hp)]
  · by_cases e : a = b
    · subst e; simp
    · have h2 : b * p < a * p := Int.mul_lt_mul_of_pos_right (by omega) hp
      rw [if_neg h, if_neg e, if_neg (by omega), if_neg (by omega)]
theorem ord_rank {x y : Nat} {X Y : Int} (hx : rank32 x = some X) (hy : rank32 y = some Y) : FloatKind.f32.format.order x y = some (cmp3 X Y) := by
  unfold rank32 at hx hy
  unfold Ieee.Format.order
  cases e1 : FloatKind.f32.format.read x with
  | nan a b => rw [e1] at hx; cases hx
  | infinity a => rw [e1] at hx; cases hx
  | number s m i =>
    cases e2 : FloatKind.f32.format.read y with
    | nan a b => rw [e2] at hy; cases hy
    | infinity a => rw [e2] at hy; cases hy
    | number t n j =>
      rw [e1] at hx
      rw [e2] at hy
      simp only at hx hy
      by_cases hi : -149 ≤ i
      · by_cases hj : -149 ≤ j
        · rw [if_pos hi] at hx
          rw [if_pos hj] at hy
          obtain rfl := Option.some.inj hx
          obtain rfl := Option.some.inj hy
          have m1 : min i j ≤ i := by omega
          have m2 : min i j ≤ j := by omega
          have m3 : -149 ≤ min i j := by omega
          show some (compare (Ieee.signed s m (i - min i j).toNat) (Ieee.signed t n (j - min i j).toNat)) = _
          rw [compare_cmp3, show (i + 149).toNat = (i - min i j).toNat + (min i j + 149).toNat by omega, show (j + 149).toNat = (j - min i j).toNat + (min i j + 149).toNat by omega, signed_more, signed_more, cmp3_mul _ _ _ (Int.pow_pos (by omega))]
        · rw [if_neg hj] at hy; cases hy
      · rw [if_neg hi] at hx; cases hx
/-- From the float of 64 bits to what the number of 32 bits stands for; its negative stands for the negative. -/
def rk (x : Nat) : Option Int := (floatToFloatBits .f64 x .f32).bind fun r => (rank32 r).bind fun z => if rank32 (Op.negFloat .f32 r) = some (-z) then some z else none
def upsR : Nat → Nat → Option (List Int)
  | 0, x => (rk x).map fun r => [r]
  | n + 1, x => (rk x).bind fun r => (FloatKind.f64.format.mul x c3).bind fun y => (upsR n y).map fun l => r :: l
def downsR : Nat → Nat → Option (List Int)
  | 0, x => (rk x).map fun r => [r]
  | n + 1, x => (rk x).bind fun r => (FloatKind.f64.format.div x c3).bind fun y => (downsR n y).map fun l => r :: l
def ranks (v : Int) : Option (List Int × List Int) := (upsR 20 (floatOfInt .f64 v)).bind fun u => (downsR 20 (floatOfInt .f64 v)).map fun d => (u, d)
def ltAll : List Int → List Int → Bool
  | a :: l, b :: m => decide (a < b) && ltAll l m
  | [], [] => true
  | _, _ => false
def negL (p : List Int × List Int) : List Int × List Int := (p.1.map fun x => -x, p.2.map fun x => -x)
def chain : Nat → Int → List Int × List Int → Bool
  | 0, _, _ => true
  | n + 1, v, p => match ranks v with
    | none => false
    | some q => ltAll p.1 q.1 && ltAll p.2 q.2 && decide (ranks (-v) = some (negL q)) && chain n (v + 1) q
def part (n : Nat) (v : Int) : Bool := match ranks (v - 1) with
  | none => false
  | some p => chain n v p
def link : Bool := match ranks 364, ranks 122 with
  | some p, some q => ltAll (p.1.take 20) (q.1.drop 1) && ltAll (p.2.drop 1) (q.2.take 20) && decide (0 < q.2.getD 20 0)
  | _, _ => false
def whole : Nat → Int → Bool
  | 0, _ => true
  | n + 1, v => decide (rank32 (floatOfInt .f32 v) = rk (floatOfInt .f64 v)) && (rk (floatOfInt .f64 v)).isSome && whole n (v + 1)
end Go.Proofs.Ytffhddibgfaopaa.P
