/- Plain facts on digits in balanced ternary: values, words, limits; no program is in sight, and no condition is set on any claim. -/
namespace Go.Proofs.Ytaopbkbjfmfcdaa.Tern

def Trit (a : Int) : Prop := -1 ≤ a ∧ a ≤ 1
instance (a : Int) : Decidable (Trit a) := inferInstanceAs (Decidable (_ ∧ _))
def Trits (w : List Int) : Prop := ∀ a ∈ w, Trit a
instance (w : List Int) : Decidable (Trits w) := inferInstanceAs (Decidable (∀ a ∈ w, Trit a))
def Word (w : List Int) : Prop := 1 ≤ w.length ∧ w.length ≤ 30 ∧ Trits w
instance (w : List Int) : Decidable (Word w) := inferInstanceAs (Decidable (_ ∧ _ ∧ _))

/-- Digits from -2 to 2. -/
def Digs (w : List Int) : Prop := ∀ a ∈ w, -2 ≤ a ∧ a ≤ 2
instance (w : List Int) : Decidable (Digs w) := inferInstanceAs (Decidable (∀ a ∈ w, _))
def Red (w : List Int) : Prop := 1 ≤ w.length ∧ w.length ≤ 30 ∧ Digs w
instance (w : List Int) : Decidable (Red w) := inferInstanceAs (Decidable (_ ∧ _ ∧ _))

/-! Division to the nearest. -/
theorem tmod_range {n m : Int} (hm : 0 < m) : (0 ≤ n → 0 ≤ Int.tmod n m ∧ Int.tmod n m < m) ∧ (n ≤ 0 → -m < Int.tmod n m ∧ Int.tmod n m ≤ 0) := by
  constructor
  · intro h
    rw [Int.tmod_eq_emod_of_nonneg h]
    exact ⟨Int.emod_nonneg _ (by omega), Int.emod_lt_of_pos _ hm⟩
  · intro h
    have h1 := Int.neg_tmod (-n) m
    rw [Int.neg_neg, Int.tmod_eq_emod_of_nonneg (show 0 ≤ -n by omega)] at h1
    have h2 := Int.emod_nonneg (-n) (show m ≠ 0 by omega)
    have h3 := Int.emod_lt_of_pos (-n) hm
    omega

/-! The root to the nearest. -/

end Go.Proofs.Ytaopbkbjfmfcdaa.Tern
