/- Plain facts on digits in balanced ternary: values, words, limits; no program is in sight, and no condition is set on any claim. -/
namespace Go.Proofs.Ytaopbkbjfmfcdaa.Tern

def Trit (a : Int) : Prop := -1 ≤ a ∧ a ≤ 1
instance (a : Int) : Decidable (Trit a) := inferInstanceAs (Decidable (_ ∧ _))
def Trits (w : List Int) : Prop := ∀ a ∈ w, Trit a
instance (w : List Int) : Decidable (Trits w) := inferInstanceAs (Decidable (∀ a ∈ w, Trit a))
def Word (w : List Int) : Prop := 1 ≤ w.length ∧ w.length ≤ 30 ∧ Trits w
instance (w : List Int) : Decidable (Word w) := inferInstanceAs (Decidable (_ ∧ _ ∧ _))

/-- Digits from -2 to 2. -/
def Digs (w : List Int) : Prop := ∀ a ∈ w, -2 ≤ a ∧ a ≤ 2
instance (w : List Int) : Decidable (Digs w) := inferInstanceAs (Decidable (∀ a ∈ w, _))
def Red (w : List Int) : Prop := 1 ≤ w.length ∧ w.length ≤ 30 ∧ Digs w
instance (w : List Int) : Decidable (Red w) := inferInstanceAs (Decidable (_ ∧ _ ∧ _))

/-- a, a + 1, a + 2, .. -/
def marks : Int → Nat → List Int
  | _, 0 => []
  | a, n + 1 => a :: marks (a + 1) n
theorem length_marks (a : Int) (n : Nat) : (marks a n).length = n := by
  induction n generalizing a with
  | zero => rfl
  | succ n ih => simp [marks, ih]

/-! Division to the nearest. -/

/-! The root to the nearest. -/

end Go.Proofs.Ytaopbkbjfmfcdaa.Tern
