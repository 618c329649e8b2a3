/- Plain facts on digits in balanced ternary: values, words, limits; no program is in sight, and no condition is set on any claim. -/
namespace Go.Proofs.Ytffhddibgfaopaa.Tern

/-- The value of digits, the lowest one first. -/
def val : List Int → Int
  | [] => 0
  | a :: w => a + 3 * val w

def Trit (a : Int) : Prop := -1 ≤ a ∧ a ≤ 1
instance (a : Int) : Decidable (Trit a) := inferInstanceAs (Decidable (_ ∧ _))
def Trits (w : List Int) : Prop := ∀ a ∈ w, Trit a
instance (w : List Int) : Decidable (Trits w) := inferInstanceAs (Decidable (∀ a ∈ w, Trit a))
def Word (w : List Int) : Prop := 1 ≤ w.length ∧ w.length ≤ 30 ∧ Trits w
instance (w : List Int) : Decidable (Word w) := inferInstanceAs (Decidable (_ ∧ _ ∧ _))

/-- The trit that a number ends in, and the rest. -/
def low3 (n : Int) : Int := (n + 1) % 3 - 1
def rest3 (n : Int) : Int := (n + 1) / 3
theorem low3_rest3 (n : Int) : n = low3 n + 3 * rest3 n := by unfold low3 rest3; omega
theorem tmod3_nonneg (n : Int) (h : 0 ≤ n) : Int.tmod n 3 = n % 3 := Int.tmod_eq_emod_of_nonneg h
theorem tmod3_nonpos (n : Int) (h : n ≤ 0) : Int.tmod n 3 = -((-n) % 3) := by
  have h1 := Int.neg_tmod (-n) 3
  rw [Int.neg_neg, Int.tmod_eq_emod_of_nonneg (show 0 ≤ -n by omega)] at h1
  exact h1
theorem low3_trit (n : Int) : Trit (low3 n) := by unfold low3 Trit; omega

def word : Int → Nat → List Int
  | _, 0 => []
  | n, k + 1 => low3 n :: word (rest3 n) k

/-- (3^k - 1) / 2 -/
def lim : Nat → Int
  | 0 => 0
  | k + 1 => 3 * lim k + 1
def pow3 : Nat → Int
  | 0 => 1
  | k + 1 => 3 * pow3 k
theorem pow3_lim (k : Nat) : pow3 k = 2 * lim k + 1 := by
  induction k with
  | zero => rfl
  | succ k ih => simp only [pow3, lim, ih]; omega
theorem lim_nonneg (k : Nat) : 0 ≤ lim k := by
  induction k with
  | zero => simp [lim]
  | succ k ih => simp only [lim]; omega
theorem pow3_pos (k : Nat) : 0 < pow3 k := by have := pow3_lim k; have := lim_nonneg k; omega
theorem lim_mono {j k : Nat} (h : j ≤ k) : lim j ≤ lim k := by
  induction h with
  | refl => exact Int.le_refl _
  | step _ ih => have := lim_nonneg j; simp only [lim]; omega
theorem lim30 : lim 30 = 102945566047324 := by decide
theorem pow3_add (a b : Nat) : pow3 (a + b) = pow3 a * pow3 b := by
  induction a with
  | zero => simp [pow3]
  | succ a ih => rw [Nat.succ_add]; simp only [pow3, ih, Int.mul_assoc]

theorem length_word (n : Int) (k : Nat) : (word n k).length = k := by
  induction k generalizing n with
  | zero => rfl
  | succ k ih => simp [word, ih]
theorem trits_word (n : Int) (k : Nat) : Trits (word n k) := by
  induction k generalizing n with
  | zero => intro a h; simp [word] at h
  | succ k ih =>
    intro a h
    simp only [word, List.mem_cons] at h
    rcases h with rfl | h
    · exact low3_trit n
    · exact ih _ a h
theorem val_word (k : Nat) : ∀ n : Int, -lim k ≤ n → n ≤ lim k → val (word n k) = n := by
  induction k with
  | zero => intro n h1 h2; simp only [lim] at *; simp only [word, val]; omega
  | succ k ih =>
    intro n h1 h2
    simp only [lim] at h1 h2
    have h := low3_rest3 n
    have ht := low3_trit n
    unfold Trit at ht
    simp only [word, val]
    rw [ih (rest3 n) (by omega) (by omega)]
    omega
theorem Trits.cons {a : Int} {w : List Int} : Trits (a :: w) ↔ Trit a ∧ Trits w := by
  simp [Trits]
theorem Trits.nil : Trits [] := by intro a h; simp at h
theorem low3_of {a n : Int} (h : Trit a) : low3 (a + 3 * n) = a := by unfold low3 Trit at *; omega
theorem rest3_of {a n : Int} (h : Trit a) : rest3 (a + 3 * n) = n := by unfold rest3 Trit at *; omega
theorem word_val (w : List Int) (h : Trits w) : word (val w) w.length = w := by
  induction w with
  | nil => rfl
  | cons a w ih =>
    rw [Trits.cons] at h
    simp only [List.length_cons, word, val, low3_of h.1, rest3_of h.1, ih h.2]
theorem val_bd (w : List Int) (h : Trits w) : -lim w.length ≤ val w ∧ val w ≤ lim w.length := by
  induction w with
  | nil => simp [val, lim]
  | cons a w ih =>
    rw [Trits.cons] at h
    have := ih h.2
    have ha := h.1
    unfold Trit at ha
    simp only [List.length_cons, lim, val]
    omega

/-- Digits from -2 to 2. -/
def Digs (w : List Int) : Prop := ∀ a ∈ w, -2 ≤ a ∧ a ≤ 2
instance (w : List Int) : Decidable (Digs w) := inferInstanceAs (Decidable (∀ a ∈ w, _))
def Red (w : List Int) : Prop := 1 ≤ w.length ∧ w.length ≤ 30 ∧ Digs w
instance (w : List Int) : Decidable (Red w) := inferInstanceAs (Decidable (_ ∧ _ ∧ _))
theorem Digs.cons {a : Int} {w : List Int} : Digs (a :: w) ↔ (-2 ≤ a ∧ a ≤ 2) ∧ Digs w := by simp [Digs]
theorem Trits.digs {w : List Int} (h : Trits w) : Digs w := fun a ha => by have := h a ha; unfold Trit at this; omega
theorem Digs.drop {w : List Int} (h : Digs w) (n : Nat) : Digs (w.drop n) := fun a ha => h a (List.mem_of_mem_drop ha)
theorem Trits.drop {w : List Int} (h : Trits w) (n : Nat) : Trits (w.drop n) := fun a ha => h a (List.mem_of_mem_drop ha)
theorem Trits.take {w : List Int} (h : Trits w) (n : Nat) : Trits (w.take n) := fun a ha => h a (List.mem_of_mem_take ha)
theorem Trits.append {v w : List Int} (h : Trits v) (h' : Trits w) : Trits (v ++ w) := fun a ha => by
  rcases List.mem_append.1 ha with h1 | h1
  · exact h a h1
  · exact h' a h1
theorem val_bd2 (w : List Int) (h : Digs w) : -(2 * lim w.length) ≤ val w ∧ val w ≤ 2 * lim w.length := by
  induction w with
  | nil => simp [val, lim]
  | cons a w ih =>
    rw [Digs.cons] at h
    have := ih h.2
    simp only [List.length_cons, lim, val]
    omega
theorem val_drop_bd (w : List Int) (hl : w.length ≤ 30) (h : Digs w) (n : Nat) : -205891132094648 ≤ val (w.drop n) ∧ val (w.drop n) ≤ 205891132094648 := by
  have h1 := val_bd2 (w.drop n) (h.drop n)
  have h2 : lim (w.drop n).length ≤ lim 30 := lim_mono (by rw [List.length_drop]; omega)
  rw [lim30] at h2
  omega
theorem val_append (v w : List Int) : val (v ++ w) = val v + pow3 v.length * val w := by
  induction v with
  | nil => simp [val, pow3]
  | cons a v ih =>
    simp only [List.cons_append, val, List.length_cons, pow3, ih]
    rw [Int.mul_assoc, Int.mul_add]
    omega
theorem pow3_mono {j k : Nat} (h : j ≤ k) : pow3 j ≤ pow3 k := by
  have := pow3_lim j; have := pow3_lim k; have := lim_mono h; omega
theorem pow3_30 : pow3 30 = 205891132094649 := by decide

/-- The word of k trits, if k and the number fit. -/
def wordOf (n : Int) (k : Int) : List Int × Bool := if 1 ≤ k ∧ k ≤ 30 ∧ -lim k.toNat ≤ n ∧ n ≤ lim k.toNat then (word n k.toNat, true) else ([], false)
theorem wordOf_yes {n k : Int} (h1 : 1 ≤ k) (h2 : k ≤ 30) (h3 : -lim k.toNat ≤ n) (h4 : n ≤ lim k.toNat) : wordOf n k = (word n k.toNat, true) := if_pos ⟨h1, h2, h3, h4⟩

theorem lim_mul (m n : Nat) : lim (m + n) = 2 * (lim m * lim n) + lim m + lim n := by
  induction m with
  | zero => simp [lim]
  | succ m ih =>
    rw [Nat.succ_add]
    simp only [lim, ih]
    rw [Int.add_mul, Int.mul_assoc]
    omega
theorem mul_le {x y a b : Int} (hx : -a ≤ x ∧ x ≤ a) (hy : -b ≤ y ∧ y ≤ b) : -(a * b) ≤ x * y ∧ x * y ≤ a * b := by
  have h1 : 0 ≤ (a - x) * (b - y) := Int.mul_nonneg (by omega) (by omega)
  have h2 : 0 ≤ (a + x) * (b + y) := Int.mul_nonneg (by omega) (by omega)
  have h3 : 0 ≤ (a - x) * (b + y) := Int.mul_nonneg (by omega) (by omega)
  have h4 : 0 ≤ (a + x) * (b - y) := Int.mul_nonneg (by omega) (by omega)
  simp only [Int.sub_mul, Int.add_mul, Int.mul_sub, Int.mul_add] at h1 h2 h3 h4
  omega

/-! Division to the nearest. -/
theorem tmod_range {n m : Int} (hm : 0 < m) : (0 ≤ n → 0 ≤ Int.tmod n m ∧ Int.tmod n m < m) ∧ (n ≤ 0 → -m < Int.tmod n m ∧ Int.tmod n m ≤ 0) := by
  constructor
  · intro h
    rw [Int.tmod_eq_emod_of_nonneg h]
    exact ⟨Int.emod_nonneg _ (by omega), Int.emod_lt_of_pos _ hm⟩
  · intro h
    have h1 := Int.neg_tmod (-n) m
    rw [Int.neg_neg, Int.tmod_eq_emod_of_nonneg (show 0 ≤ -n by omega)] at h1
    have h2 := Int.emod_nonneg (-n) (show m ≠ 0 by omega)
    have h3 := Int.emod_lt_of_pos (-n) hm
    omega

/-! The root to the nearest. -/

/-- The sign. -/
def sg (x : Int) : Int := if x < 0 then -1 else if 0 < x then 1 else 0
end Go.Proofs.Ytffhddibgfaopaa.Tern
