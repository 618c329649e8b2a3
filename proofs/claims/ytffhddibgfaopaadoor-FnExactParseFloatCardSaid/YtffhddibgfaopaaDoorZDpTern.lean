/- Plain facts on digits in balanced ternary: values, words, limits; no program is in sight, and no condition is set on any claim. -/
namespace Go.Proofs.YtffhddibgfaopaaDoor.Tern

/-- The value of digits, the lowest one first. -/
def val : List Int → Int
  | [] => 0
  | a :: w => a + 3 * val w

def Trit (a : Int) : Prop := -1 ≤ a ∧ a ≤ 1
instance (a : Int) : Decidable (Trit a) := inferInstanceAs (Decidable (_ ∧ _))
def Trits (w : List Int) : Prop := ∀ a ∈ w, Trit a
instance (w : List Int) : Decidable (Trits w) := inferInstanceAs (Decidable (∀ a ∈ w, Trit a))
def Word (w : List Int) : Prop := 1 ≤ w.length ∧ w.length ≤ 30 ∧ Trits w
instance (w : List Int) : Decidable (Word w) := inferInstanceAs (Decidable (_ ∧ _ ∧ _))

/-- The trit that a number ends in, and the rest. -/
def low3 (n : Int) : Int := (n + 1) % 3 - 1
def rest3 (n : Int) : Int := (n + 1) / 3

def word : Int → Nat → List Int
  | _, 0 => []
  | n, k + 1 => low3 n :: word (rest3 n) k

/-- (3^k - 1) / 2 -/
def lim : Nat → Int
  | 0 => 0
  | k + 1 => 3 * lim k + 1
def pow3 : Nat → Int
  | 0 => 1
  | k + 1 => 3 * pow3 k
theorem pow3_lim (k : Nat) : pow3 k = 2 * lim k + 1 := by
  induction k with
  | zero => rfl
  | succ k ih => simp only [pow3, lim, ih]; omega
theorem lim_nonneg (k : Nat) : 0 ≤ lim k := by
  induction k with
  | zero => simp [lim]
  | succ k ih => simp only [lim]; omega
theorem lim_mono {j k : Nat} (h : j ≤ k) : lim j ≤ lim k := by
  induction h with
  | refl => exact Int.le_refl _
  | step _ ih => have := lim_nonneg j; simp only [lim]; omega
theorem lim30 : lim 30 = 102945566047324 := by decide

theorem Trits.cons {a : Int} {w : List Int} : Trits (a :: w) ↔ Trit a ∧ Trits w := by
  simp [Trits]
theorem Trits.nil : Trits [] := by intro a h; simp at h
theorem val_bd (w : List Int) (h : Trits w) : -lim w.length ≤ val w ∧ val w ≤ lim w.length := by
  induction w with
  | nil => simp [val, lim]
  | cons a w ih =>
    rw [Trits.cons] at h
    have := ih h.2
    have ha := h.1
    unfold Trit at ha
    simp only [List.length_cons, lim, val]
    omega

/-- Digits from -2 to 2. -/
def Digs (w : List Int) : Prop := ∀ a ∈ w, -2 ≤ a ∧ a ≤ 2
instance (w : List Int) : Decidable (Digs w) := inferInstanceAs (Decidable (∀ a ∈ w, _))
def Red (w : List Int) : Prop := 1 ≤ w.length ∧ w.length ≤ 30 ∧ Digs w
instance (w : List Int) : Decidable (Red w) := inferInstanceAs (Decidable (_ ∧ _ ∧ _))
theorem Digs.cons {a : Int} {w : List Int} : Digs (a :: w) ↔ (-2 ≤ a ∧ a ≤ 2) ∧ Digs w := by simp [Digs]
theorem Trits.digs {w : List Int} (h : Trits w) : Digs w := fun a ha => by have := h a ha; unfold Trit at this; omega
theorem Digs.drop {w : List Int} (h : Digs w) (n : Nat) : Digs (w.drop n) := fun a ha => h a (List.mem_of_mem_drop ha)
theorem Trits.drop {w : List Int} (h : Trits w) (n : Nat) : Trits (w.drop n) := fun a ha => h a (List.mem_of_mem_drop ha)
theorem Trits.take {w : List Int} (h : Trits w) (n : Nat) : Trits (w.take n) := fun a ha => h a (List.mem_of_mem_take ha)
theorem Trits.append {v w : List Int} (h : Trits v) (h' : Trits w) : Trits (v ++ w) := fun a ha => by
  rcases List.mem_append.1 ha with h1 | h1
  · exact h a h1
  · exact h' a h1
theorem val_bd2 (w : List Int) (h : Digs w) : -(2 * lim w.length) ≤ val w ∧ val w ≤ 2 * lim w.length := by
  induction w with
  | nil => simp [val, lim]
  | cons a w ih =>
    rw [Digs.cons] at h
    have := ih h.2
    simp only [List.length_cons, lim, val]
    omega
theorem val_drop_bd (w : List Int) (hl : w.length ≤ 30) (h : Digs w) (n : Nat) : -205891132094648 ≤ val (w.drop n) ∧ val (w.drop n) ≤ 205891132094648 := by
  have h1 := val_bd2 (w.drop n) (h.drop n)
  have h2 : lim (w.drop n).length ≤ lim 30 := lim_mono (by rw [List.length_drop]; omega)
  rw [lim30] at h2
  omega
theorem val_append (v w : List Int) : val (v ++ w) = val v + pow3 v.length * val w := by
  induction v with
  | nil => simp [val, pow3]
  | cons a v ih =>
    simp only [List.cons_append, val, List.length_cons, pow3, ih]
    rw [Int.mul_assoc, Int.mul_add]
    omega

/-- a, a + 1, a + 2, .. -/
def marks : Int → Nat → List Int
  | _, 0 => []
  | a, n + 1 => a :: marks (a + 1) n
theorem length_marks (a : Int) (n : Nat) : (marks a n).length = n := by
  induction n generalizing a with
  | zero => rfl
  | succ n ih => simp [marks, ih]

/-! Division to the nearest. -/

/-! The root to the nearest. -/

/-- The sign. -/
def sg (x : Int) : Int := if x < 0 then -1 else if 0 < x then 1 else 0
end Go.Proofs.YtffhddibgfaopaaDoor.Tern
