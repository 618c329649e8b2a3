/- Plain facts on floating numbers of six digits; no program is in sight, and no condition is set on any claim. -/
import Derived.Test.YtffhddibgfaopaaZSnTern
namespace Go.Proofs.Ytffhddibgfaopaa.Tern
/-- How many digits a number has, without zeros at the top. -/
def len3 (n : Int) : Nat := if h : n = 0 then 0 else len3 (rest3 n) + 1
  termination_by n.natAbs
  decreasing_by unfold rest3; omega
theorem len3_zero : len3 0 = 0 := by rw [len3]; simp
theorem len3_step {n : Int} (h : n ≠ 0) : len3 n = len3 (rest3 n) + 1 := by rw [len3]; simp [h]
theorem len3_le : ∀ (k : Nat) (n : Int), -lim k ≤ n → n ≤ lim k → len3 n ≤ k
  | 0, n, h0, h1 => by
    have : n = 0 := by simp only [lim] at h0 h1; omega
    subst this; rw [len3_zero]; omega
  | k + 1, n, h0, h1 => by
    by_cases h : n = 0
    · subst h; rw [len3_zero]; omega
    · rw [len3_step h]
      have := len3_le k (rest3 n) (by simp only [lim] at h0; unfold rest3; omega) (by simp only [lim] at h1; unfold rest3; omega)
      omega
theorem len3_bd (n : Int) : -lim (len3 n) ≤ n ∧ n ≤ lim (len3 n) := by
  by_cases h : n = 0
  · subst h; have := lim_nonneg (len3 0); omega
  · have ih := len3_bd (rest3 n)
    rw [len3_step h]
    simp only [lim]
    unfold rest3 at ih ⊢
    omega
  termination_by n.natAbs
  decreasing_by unfold rest3; omega
theorem len3_gt {n : Int} {k : Nat} (h : k < len3 n) : n < -lim k ∨ lim k < n := by
  rcases Int.lt_or_le n (-lim k) with a | a
  · exact .inl a
  · rcases Int.lt_or_le (lim k) n with b | b
    · exact .inr b
    · have := len3_le k n a b; omega
theorem len3_pos {n : Int} (h : n ≠ 0) : 0 < len3 n := by rw [len3_step h]; omega

/-- A number of floating digits: six digits at most, the highest ones, and the exponent. -/
def digs (v : Int) : List Int := (List.replicate 6 0 ++ word v (len3 v)).drop (len3 v)
def flo (v e : Int) : List Int × Int × Bool :=
  if v = 0 then (List.replicate 6 0, 0, true)
  else if -20 ≤ e + len3 v - 6 ∧ e + len3 v - 6 ≤ 20 then (digs v, e + len3 v - 6, true) else ([], 0, false)
theorem word_zero : ∀ k : Nat, word 0 k = List.replicate k 0
  | 0 => rfl
  | k + 1 => by
    rw [word, show low3 0 = 0 by decide, show rest3 0 = 0 by decide, word_zero k]; rfl
/-- The digits without the zeros at the top. -/
def tops : List Int → Nat
  | [] => 0
  | a :: w => if tops w = 0 then (if a = 0 then 0 else 1) else tops w + 1
theorem tops_le : ∀ w : List Int, tops w ≤ w.length
  | [] => Nat.le_refl _
  | a :: w => by
    have := tops_le w
    simp only [tops, List.length_cons]
    split
    · split <;> omega
    · omega
theorem val_tops (w : List Int) : val (w.take (tops w)) = val w ∧ (tops w = 0 → val w = 0) := by
  induction w with
  | nil => exact ⟨rfl, fun _ => rfl⟩
  | cons a w ih =>
    simp only [tops]
    by_cases h : tops w = 0
    · have hw := ih.2 h
      rw [if_pos h]
      by_cases ha : a = 0
      · subst ha
        rw [if_pos rfl]
        simp [val, hw]
      · rw [if_neg ha]
        simp [val, hw]
    · rw [if_neg h]
      rw [List.take_succ_cons]
      simp only [val, ih.1, true_and]
      intro h; omega
theorem tops_len3 (w : List Int) (ht : Trits w) : len3 (val w) = tops w := by
  induction w with
  | nil => exact len3_zero
  | cons a w ih =>
    obtain ⟨ta, tw⟩ := Trits.cons.1 ht
    have ih := ih tw
    by_cases h0 : val (a :: w) = 0
    · rw [h0, len3_zero]
      have e1 : a = 0 := by simp only [val] at h0; unfold Trit at ta; omega
      have e2 : val w = 0 := by simp only [val] at h0; omega
      rw [e2, len3_zero] at ih
      simp [tops, ← ih, e1]
    · rw [len3_step h0]
      have : rest3 (val (a :: w)) = val w := by simp only [val]; exact rest3_of ta
      rw [this, ih]
      simp only [tops]
      split
      · rename_i hz
        split
        · rename_i ha
          exact absurd (by simp only [val, ha, (val_tops w).2 hz]; rfl) h0
        · omega
      · rfl
theorem take_tops (w : List Int) (ht : Trits w) : w.take (tops w) = word (val w) (len3 (val w)) := by
  have e := word_val (w.take (tops w)) (ht.take _)
  rw [(val_tops w).1, List.length_take, Nat.min_eq_left (tops_le w)] at e
  rw [tops_len3 w ht, e]

theorem val_zero_rep {w : List Int} (ht : Trits w) (h : val w = 0) : w = List.replicate w.length 0 := by
  have := word_val w ht
  rw [h, word_zero] at this
  exact this.symm
theorem digs_len (v : Int) : (digs v).length = 6 := by
  unfold digs
  simp only [List.length_drop, List.length_append, List.length_replicate, length_word]
  omega
theorem digs_trits (v : Int) : Trits (digs v) := by
  unfold digs
  refine Trits.drop (Trits.append ?_ (trits_word _ _)) _
  intro a ha
  rw [(List.mem_replicate.1 ha).2]
  decide
/-- A floating number that is valid: six digits, the highest one not 0; or all of 0. -/
def Fl (d : List Int) (e : Int) : Prop := d.length = 6 ∧ Trits d ∧ -20 ≤ e ∧ e ≤ 20 ∧ (d.getD 5 0 ≠ 0 ∨ (val d = 0 ∧ e = 0))
instance (d : List Int) (e : Int) : Decidable (Fl d e) := by unfold Fl; exact inferInstance
theorem tops_of_last (w : List Int) (n : Nat) (hl : w.length = n + 1) (h : w.getD n 0 ≠ 0) : tops w = n + 1 := by
  induction w generalizing n with
  | nil => simp at hl
  | cons a w ih =>
    cases n with
    | zero =>
      have : w = [] := List.length_eq_zero_iff.1 (by simpa using hl)
      subst this
      have ha : a ≠ 0 := by simpa using h
      simp [tops, ha]
    | succ n =>
      have e := ih n (by simpa using hl) (by simpa using h)
      simp [tops, e]
theorem tops_last (w : List Int) (n : Nat) (h : tops w = n + 1) : w.getD n 0 ≠ 0 := by
  induction w generalizing n with
  | nil => simp [tops] at h
  | cons a w ih =>
    simp only [tops] at h
    split at h
    · rename_i hz
      split at h
      · omega
      · rename_i ha
        obtain rfl : n = 0 := by omega
        simpa using ha
    · obtain ⟨m, rfl⟩ : ∃ m, n = m + 1 := ⟨n - 1, by omega⟩
      have := ih m (by omega)
      simpa using this
theorem Fl.zero_or {d : List Int} {e : Int} (h : Fl d e) : (val d = 0 ∧ d = List.replicate 6 0 ∧ e = 0) ∨ (val d ≠ 0 ∧ len3 (val d) = 6 ∧ digs (val d) = d) := by
  obtain ⟨h1, h2, h3, h4, h5⟩ := h
  by_cases hv : val d = 0
  · left
    have e1 := val_zero_rep h2 hv
    rw [h1] at e1
    refine ⟨hv, e1, ?_⟩
    rcases h5 with h5 | h5
    · rw [e1] at h5; exact absurd rfl h5
    · exact h5.2
  · right
    have h5 : d.getD 5 0 ≠ 0 := by rcases h5 with h5 | h5; exact h5; exact absurd h5.1 hv
    have ht := tops_of_last d 5 h1 h5
    have hl : len3 (val d) = 6 := by rw [tops_len3 d h2, ht]
    refine ⟨hv, hl, ?_⟩
    unfold digs
    rw [hl, List.drop_left' (by simp), show (6 : Nat) = d.length from h1.symm, word_val d h2]
theorem flo_Fl {v e : Int} (h : (flo v e).2.2 = true) : Fl (flo v e).1 (flo v e).2.1 := by
  unfold flo at *
  by_cases hv : v = 0
  · rw [if_pos hv]
    exact ⟨by simp, fun a ha => by rw [(List.mem_replicate.1 ha).2]; decide, by decide, by decide, .inr ⟨by decide, rfl⟩⟩
  · rw [if_neg hv] at *
    by_cases hb : -20 ≤ e + len3 v - 6 ∧ e + len3 v - 6 ≤ 20
    · rw [if_pos hb]
      refine ⟨digs_len v, digs_trits v, hb.1, hb.2, .inl ?_⟩
      show (digs v).getD 5 0 ≠ 0
      have hp := len3_pos hv
      obtain ⟨t, ht⟩ : ∃ t, len3 v = t + 1 := ⟨len3 v - 1, by omega⟩
      have e1 : (digs v).getD 5 0 = (word v (len3 v)).getD t 0 := by
        unfold digs
        simp only [List.getD_eq_getElem?_getD, List.getElem?_drop]
        rw [List.getElem?_append_right (by simp; omega)]
        simp
        congr 2
        omega
      rw [e1]
      apply tops_last
      have e2 : val (word v (len3 v)) = v := val_word _ v (len3_bd v).1 (len3_bd v).2
      rw [← tops_len3 _ (trits_word _ _), e2, ht]
    · rw [if_neg hb] at h
      exact absurd h (by simp)

/-- The exact sum of two floating numbers, at the least exponent. -/
def sumF (x ea y eb : Int) : Int := x * pow3 (ea + 20).toNat + y * pow3 (eb + 20).toNat

/-- The number that is left of v when six digits are kept. -/
def kept (v : Int) : Int := if len3 v ≤ 6 then v else val (digs v) * pow3 (len3 v - 6)
theorem val_reps : ∀ n : Nat, val (List.replicate n 0) = 0
  | 0 => rfl
  | n + 1 => by rw [List.replicate_succ, val, val_reps n]; rfl
theorem digs_small (v : Int) (h : len3 v ≤ 6) : val (digs v) = v * pow3 (6 - len3 v) := by
  unfold digs
  rw [List.drop_append_of_le_length (by simpa using h), List.drop_replicate, val_append, val_reps, List.length_replicate, val_word _ v (len3_bd v).1 (len3_bd v).2, Int.zero_add, Int.mul_comm]
theorem lim_split (q m : Nat) : lim (q + m) = lim m * pow3 q + lim q := by
  have := lim_mul q m
  have hp := pow3_lim q
  rw [this, hp, Int.mul_add, Int.mul_one]
  have e : lim m * (2 * lim q) = 2 * (lim q * lim m) := by rw [Int.mul_comm, Int.mul_assoc]
  omega

theorem getD_tops (w : List Int) : ∀ i : Nat, tops w ≤ i → w.getD i 0 = 0 := by
  induction w with
  | nil => intro i _; rfl
  | cons a w ih =>
    intro i hi
    simp only [tops] at hi
    cases i with
    | zero =>
      by_cases h : tops w = 0
      · rw [if_pos h] at hi
        by_cases ha : a = 0
        · simpa using ha
        · rw [if_neg ha] at hi; omega
      · rw [if_neg h] at hi; omega
    | succ i =>
      have := ih i (by split at hi; rename_i h; omega; omega)
      simpa using this
theorem fl_digs {v x : Int} (h : v ≠ 0) : Fl (digs v) x ↔ -20 ≤ x ∧ x ≤ 20 := by
  constructor
  · exact fun h => ⟨h.2.2.1, h.2.2.2.1⟩
  · intro hx
    have e : flo v (x - len3 v + 6) = (digs v, x, true) := by
      unfold flo
      rw [if_neg h, if_pos (by omega), show x - (len3 v : Int) + 6 + (len3 v : Int) - 6 = x by omega]
    have := flo_Fl (v := v) (e := x - len3 v + 6) (by rw [e])
    rw [e] at this
    exact this
theorem digs_eq_small (v : Int) (h : len3 v ≤ 6) : digs v = List.replicate (6 - len3 v) 0 ++ word v (len3 v) := by
  unfold digs
  rw [List.drop_append_of_le_length (by simpa using h), List.drop_replicate]
theorem sumF_bd {a : List Int} {ea : Int} (ha : Fl a ea) : (-lim 46 ≤ val a * pow3 (ea + 20).toNat ∧ val a * pow3 (ea + 20).toNat ≤ lim 46) := by
  have h1 := val_bd a ha.2.1
  rw [ha.1] at h1
  have h2 := ha.2.2
  have h3 := lim_split (ea + 20).toNat 6
  have h4 := lim_mono (show (ea + 20).toNat + 6 ≤ 46 by omega)
  have h5 := lim_nonneg (ea + 20).toNat
  have h6 := pow3_pos (ea + 20).toNat
  have := mul_le (x := val a) (y := pow3 (ea + 20).toNat) (a := lim 6) (b := pow3 (ea + 20).toNat) h1 (by omega)
  omega
/-- A small number, as a floating one: its digits, moved up. -/
theorem flo_small (n : Int) (h0 : -364 ≤ n) (h1 : n ≤ 364) : ∃ d p, flo n 0 = (d, -((p : Nat) : Int), true) ∧ val d = n * pow3 p ∧ p ≤ 6 ∧ Fl d (-(p : Int)) ∧ val (d.drop p) = n := by
  by_cases hz : n = 0
  · subst hz
    refine ⟨List.replicate 6 0, 0, rfl, by decide, by omega, ⟨by simp, ?_, by decide, by decide, .inr ⟨by decide, rfl⟩⟩, by decide⟩
    intro a ha; rw [(List.mem_replicate.1 ha).2]; decide
  · have hl := len3_le 6 n (by rw [show lim 6 = 364 by decide]; omega) (by rw [show lim 6 = 364 by decide]; omega)
    have hf : flo n 0 = (digs n, -((6 - len3 n : Nat) : Int), true) := by
      unfold flo
      rw [if_neg hz, if_pos (by omega), show (0 : Int) + len3 n - 6 = -((6 - len3 n : Nat) : Int) by omega]
    refine ⟨digs n, 6 - len3 n, hf, digs_small n hl, by omega, ?_, ?_⟩
    · have := flo_Fl (v := n) (e := 0) (by rw [hf])
      rw [hf] at this
      exact this
    · rw [digs_eq_small n hl, List.drop_left' (by simp), val_word _ n (len3_bd n).1 (len3_bd n).2]

end Go.Proofs.Ytffhddibgfaopaa.Tern
