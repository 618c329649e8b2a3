/- Plain facts on digits in balanced ternary: values, words, limits; no program is in sight, and no condition is set on any claim. -/
namespace Go.Proofs.Ytefjepcknmhblaa.Tern

/-- The value of digits, the lowest one first. -/
def val : List Int → Int
  | [] => 0
  | a :: w => a + 3 * val w

def Trit (a : Int) : Prop := -1 ≤ a ∧ a ≤ 1
instance (a : Int) : Decidable (Trit a) := inferInstanceAs (Decidable (_ ∧ _))
def Trits (w : List Int) : Prop := ∀ a ∈ w, Trit a
instance (w : List Int) : Decidable (Trits w) := inferInstanceAs (Decidable (∀ a ∈ w, Trit a))
def Word (w : List Int) : Prop := 1 ≤ w.length ∧ w.length ≤ 30 ∧ Trits w
instance (w : List Int) : Decidable (Word w) := inferInstanceAs (Decidable (_ ∧ _ ∧ _))

/-- The trit that a number ends in, and the rest. -/
def low3 (n : Int) : Int := (n + 1) % 3 - 1
def rest3 (n : Int) : Int := (n + 1) / 3
theorem low3_rest3 (n : Int) : n = low3 n + 3 * rest3 n := by unfold low3 rest3; omega
theorem low3_trit (n : Int) : Trit (low3 n) := by unfold low3 Trit; omega

theorem Trits.cons {a : Int} {w : List Int} : Trits (a :: w) ↔ Trit a ∧ Trits w := by
  simp [Trits]
theorem Trits.nil : Trits [] := by intro a h; simp at h

/-- Digits from -2 to 2. -/
def Digs (w : List Int) : Prop := ∀ a ∈ w, -2 ≤ a ∧ a ≤ 2
instance (w : List Int) : Decidable (Digs w) := inferInstanceAs (Decidable (∀ a ∈ w, _))
def Red (w : List Int) : Prop := 1 ≤ w.length ∧ w.length ≤ 30 ∧ Digs w
instance (w : List Int) : Decidable (Red w) := inferInstanceAs (Decidable (_ ∧ _ ∧ _))
theorem Trits.take {w : List Int} (h : Trits w) (n : Nat) : Trits (w.take n) := fun a ha => h a (List.mem_of_mem_take ha)

/-- a, a + 1, a + 2, .. -/
def marks : Int → Nat → List Int
  | _, 0 => []
  | a, n + 1 => a :: marks (a + 1) n
theorem length_marks (a : Int) (n : Nat) : (marks a n).length = n := by
  induction n generalizing a with
  | zero => rfl
  | succ n ih => simp [marks, ih]

/-! Division to the nearest. -/

/-! The root to the nearest. -/

end Go.Proofs.Ytefjepcknmhblaa.Tern
