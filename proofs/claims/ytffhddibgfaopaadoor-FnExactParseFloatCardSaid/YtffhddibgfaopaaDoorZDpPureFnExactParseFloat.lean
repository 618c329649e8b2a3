/- For all texts the program's ParseFloat gives what the reference gives, and shares no memory; no condition. -/
import Derived.Test.YtffhddibgfaopaaDoorZDpPx9
import Derived.Test.YtffhddibgfaopaaDoorZDpGlue
namespace Go.Proofs.YtffhddibgfaopaaDoor.Pure
open Go.RowKit Go.Proofs.YtffhddibgfaopaaDoor.Tern Go.Proofs.YtffhddibgfaopaaDoor.P Go.Proofs.YtffhddibgfaopaaDoorW.PrintWords Go.Proofs.YtffhddibgfaopaaDoorW.PrintLast
set_option linter.unusedVariables false
set_option linter.unusedSimpArgs false

namespace FnExactParseFloatParts
theorem impl_IsTrit_f (a : Int) : impl_IsTrit.f a = some (decide (Trit a)) := by
  unfold impl_IsTrit.f Trit
  split
  · rename_i h
    simp [show -1 ≤ a from h]
  · rename_i h
    have : ¬ (-1 ≤ a) := h
    simp [this]
theorem spec_IsTrit_f (a : Int) : spec_IsTrit.f a = some (decide (Trit a)) := by
  unfold spec_IsTrit.f spec_l1In.f Trit
  split
  · rename_i h
    simp [show -1 ≤ a from h]
  · rename_i h
    have : ¬ (-1 ≤ a) := h
    simp [this]
theorem spec_l1In_f (x a b : Int) : spec_l1In.f x a b = some (decide (a ≤ x ∧ x ≤ b)) := by
  unfold spec_l1In.f
  split
  · rename_i h
    simp [show a ≤ x from h]
  · rename_i h
    have : ¬ (a ≤ x) := h
    simp [this]
theorem impl_trits_l0 (l : List Int) (hl : l.length ≤ 2000000) : ∀ (d k i : Nat), i + d = l.length → d < k →
    impl_trits.l0 k l (l.length : Int) (i : Int) = some (decide (Trits (l.drop i))) := by
  intro d
  induction d with
  | zero =>
    intro k i h hk
    obtain ⟨k, rfl⟩ : ∃ m, k = m + 1 := ⟨k - 1, by omega⟩
    simp only [impl_trits.l0]
    rw [if_neg (by omega), List.drop_eq_nil_of_le (by omega)]
    simp [Trits.nil]
  | succ d ih =>
    intro k i h hk
    obtain ⟨k, rfl⟩ : ∃ m, k = m + 1 := ⟨k - 1, by omega⟩
    simp only [impl_trits.l0]
    rw [if_pos (by omega), if_pos (by omega), if_pos (by omega), impl_IsTrit_f, drop_rd l i (by omega)]
    simp only [bsome, Trits.cons]
    by_cases ht : Trit (rd l (i : Int))
    · rw [if_pos (by simpa using ht), w64 _ (by omega) (by omega)]
      have := ih k (i + 1) (by omega) (by omega)
      rw [show ((i + 1 : Nat) : Int) = (i : Int) + 1 from by omega] at this
      rw [this]; simp [ht]
    · rw [if_neg (by simpa using ht)]; simp [ht]
theorem impl_trits_f (k : Nat) (l : List Int) (hk : 2000001 ≤ k) (hl : l.length ≤ 2000000) : impl_trits.f k l = some (decide (Trits l)) := by
  unfold impl_trits.f
  have := impl_trits_l0 l hl l.length k 0 (by omega) (by omega)
  simpa using this
theorem spec_IsWord_l0 (l : List Int) (hl : l.length ≤ 2000000) : ∀ (d k i : Nat), i + d = l.length → d < k →
    spec_IsWord.l0 k l l (l.length : Int) (i : Int) = some (decide (1 ≤ l.length ∧ l.length ≤ 30 ∧ Trits (l.drop i))) := by
  intro d
  induction d with
  | zero =>
    intro k i h hk
    obtain ⟨k, rfl⟩ : ∃ m, k = m + 1 := ⟨k - 1, by omega⟩
    simp only [spec_IsWord.l0]
    rw [if_neg (by omega), List.drop_eq_nil_of_le (by omega), spec_l1In_f]
    have e : (1 ≤ (l.length : Int) ∧ (l.length : Int) ≤ 30) = (1 ≤ l.length ∧ l.length ≤ 30) := by apply propext; omega
    simp [Trits.nil, e]
  | succ d ih =>
    intro k i h hk
    obtain ⟨k, rfl⟩ : ∃ m, k = m + 1 := ⟨k - 1, by omega⟩
    simp only [spec_IsWord.l0]
    rw [if_pos (by omega), if_pos (by omega), if_pos (by omega), spec_IsTrit_f, drop_rd l i (by omega)]
    simp only [bsome, Trits.cons]
    by_cases ht : Trit (rd l (i : Int))
    · rw [if_pos (by simpa using ht), w64 _ (by omega) (by omega)]
      have := ih k (i + 1) (by omega) (by omega)
      rw [show ((i + 1 : Nat) : Int) = (i : Int) + 1 from by omega] at this
      rw [this]; simp [ht]
    · rw [if_neg (by simpa using ht)]; simp [ht]
theorem spec_IsWord_f (k : Nat) (l : List Int) (hk : 2000001 ≤ k) (hl : l.length ≤ 2000000) : spec_IsWord.f k l = some (decide (Word l)) := by
  unfold spec_IsWord.f Word
  exact spec_IsWord_l0 l hl l.length k 0 (by omega) (by omega)
theorem spec_l2Value_l0 (l : List Int) (hl : l.length ≤ 30) (hb : Digs l) : ∀ (n k : Nat) (x : Int), n ≤ l.length → n < k → x = (n : Int) - 1 →
    spec_l2Value.l0 k l (val (l.drop n)) x = some (val l) := by
  intro n
  induction n with
  | zero =>
    intro k x h hk hx
    obtain ⟨k, rfl⟩ : ∃ m, k = m + 1 := ⟨k - 1, by omega⟩
    simp only [spec_l2Value.l0]
    rw [if_neg (by omega), List.drop_zero]
  | succ n ih =>
    intro k x h hk hx
    obtain ⟨k, rfl⟩ : ∃ m, k = m + 1 := ⟨k - 1, by omega⟩
    obtain rfl : x = (n : Int) := by omega
    have b1 := val_drop_bd l hl hb (n + 1)
    have b2 := hb _ (rd_mem l n (by omega))
    simp only [spec_l2Value.l0]
    rw [if_pos (by omega), if_pos (by omega), if_pos (by omega), w64 (3 * _) (by omega) (by omega), w64 _ (by omega) (by omega), w64 _ (by omega) (by omega)]
    have e : val (l.drop n) = 3 * val (l.drop (n + 1)) + rd l (n : Int) := by rw [drop_rd l n (by omega)]; simp only [val]; omega
    rw [← e]
    exact ih k _ (by omega) (by omega) rfl
theorem spec_l2Value_f (k : Nat) (l : List Int) (hk : 31 ≤ k) (hl : l.length ≤ 30) (hb : Digs l) : spec_l2Value.f k l = some (val l) := by
  unfold spec_l2Value.f
  have := spec_l2Value_l0 l hl hb l.length k (wrap64 ((l.length : Int) - 1)) (Nat.le_refl _) (by omega) (w64 _ (by omega) (by omega))
  rw [List.drop_length] at this
  exact this
theorem laws_eqIntS_l0 (a b : List Int) (hl : a.length ≤ 2000000) (hb : a.length = b.length) : ∀ (d k i : Nat), i + d = a.length → d < k →
    laws_eqIntS.l0 k a b (i : Int) = some (decide (a.drop i = b.drop i)) := by
  intro d
  induction d with
  | zero =>
    intro k i h hk
    obtain ⟨k, rfl⟩ : ∃ m, k = m + 1 := ⟨k - 1, by omega⟩
    simp only [laws_eqIntS.l0]
    rw [if_neg (by omega), List.drop_eq_nil_of_le (by omega), List.drop_eq_nil_of_le (by omega)]; simp
  | succ d ih =>
    intro k i h hk
    obtain ⟨k, rfl⟩ : ∃ m, k = m + 1 := ⟨k - 1, by omega⟩
    simp only [laws_eqIntS.l0]
    rw [if_pos (by omega), if_pos (by omega), if_pos (by omega), drop_rd a i (by omega), drop_rd b i (by omega), w64 _ (by omega) (by omega)]
    by_cases c : rd a (i : Int) = rd b (i : Int)
    · rw [if_pos c, show (i : Int) + 1 = ((i + 1 : Nat) : Int) from by omega, ih k (i + 1) (by omega) (by omega)]
      simp [c]
    · rw [if_neg c]; simp [c]
theorem laws_eqIntS_f (k : Nat) (a b : List Int) (hk : 2000001 ≤ k) (hl : a.length ≤ 2000000) : laws_eqIntS.f k a b = some (decide (a = b)) := by
  unfold laws_eqIntS.f
  by_cases h : a.length = b.length
  · rw [if_pos (by omega)]
    have := laws_eqIntS_l0 a b hl h a.length k 0 (by omega) (by omega)
    simpa using this
  · rw [if_neg (by omega)]
    have : a ≠ b := fun e => h (by rw [e])
    simp [this]
theorem laws_markIntS_l0 : ∀ (rest pre : List Int) (k : Nat) (m : Int), (pre ++ rest).length ≤ 2000000 → rest.length < k → 0 ≤ m → m ≤ 1000000000000 → m + rest.length ≤ 1000000000000 →
    laws_markIntS.l0 k (pre ++ rest) m (pre.length : Int) = some (m + rest.length, pre ++ marks m rest.length) := by
  intro rest
  induction rest with
  | nil =>
    intro pre k m hl hk h0 h1 h2
    obtain ⟨k, rfl⟩ : ∃ m, k = m + 1 := ⟨k - 1, by simp only [List.length_nil] at hk; omega⟩
    simp only [laws_markIntS.l0]
    rw [if_neg (by simp)]; simp [marks]
  | cons x rest ih =>
    intro pre k m hl hk h0 h1 h2
    simp only [List.length_cons, List.length_append] at *
    obtain ⟨k, rfl⟩ : ∃ m, k = m + 1 := ⟨k - 1, by omega⟩
    simp only [laws_markIntS.l0]
    rw [if_pos (by simp only [List.length_append, List.length_cons]; omega), if_pos (by omega), Int.toNat_natCast, set_append_len, w64 _ (by omega) (by omega), w64 _ (by omega) (by omega)]
    have := ih (pre ++ [m]) k (m + 1) (by simp; omega) (by omega) (by omega) (by omega) (by omega)
    simp only [List.append_assoc, List.singleton_append, List.length_append, List.length_singleton] at this
    rw [show (pre.length : Int) + 1 = ((pre.length + 1 : Nat) : Int) from by omega, this]
    simp [marks]; omega
theorem laws_markIntS_f (k : Nat) (l : List Int) (m : Int) (hk : 2000001 ≤ k) (hl : l.length ≤ 2000000) (h0 : 0 ≤ m) (h1 : m ≤ 10000000000) : laws_markIntS.f k l m = some (m + l.length, marks m l.length) := by
  unfold laws_markIntS.f
  have := laws_markIntS_l0 l [] k m (by simpa using hl) (by omega) h0 (by omega) (by omega)
  simpa using this
theorem laws_heldIntS_l0 (l : List Int) (hl : l.length ≤ 2000000) : ∀ (d k i : Nat) (m : Int), i + d = l.length → d < k → 0 ≤ m → m + d ≤ 1000000000000 →
    laws_heldIntS.l0 k l m (i : Int) = some (if l.drop i = marks m d then m + d else -1) := by
  intro d
  induction d with
  | zero =>
    intro k i m h hk h0 h1
    obtain ⟨k, rfl⟩ : ∃ m, k = m + 1 := ⟨k - 1, by omega⟩
    simp only [laws_heldIntS.l0]
    rw [if_neg (by omega), List.drop_eq_nil_of_le (by omega)]; simp [marks]
  | succ d ih =>
    intro k i m h hk h0 h1
    obtain ⟨k, rfl⟩ : ∃ m, k = m + 1 := ⟨k - 1, by omega⟩
    simp only [laws_heldIntS.l0]
    rw [if_pos (by omega), if_pos (by omega), drop_rd l i (by omega), w64 _ (by omega) (by omega), w64 _ (by omega) (by omega)]
    simp only [marks, List.cons.injEq]
    by_cases c : rd l (i : Int) = m
    · rw [if_pos c, show (i : Int) + 1 = ((i + 1 : Nat) : Int) from by omega, ih k (i + 1) (m + 1) (by omega) (by omega) (by omega) (by omega)]
      simp only [c, true_and]
      split
      · congr 1; omega
      · rfl
    · rw [if_neg c, if_neg (fun hh => c hh.1)]
theorem laws_heldIntS_f (k : Nat) (l : List Int) (m : Int) (hk : 2000001 ≤ k) (hl : l.length ≤ 2000000) (h0 : 0 ≤ m) (h1 : m ≤ 10000000000) : laws_heldIntS.f k l m = some (if l = marks m l.length then m + l.length else -1) := by
  unfold laws_heldIntS.f
  have := laws_heldIntS_l0 l hl l.length k 0 m (by omega) (by omega) h0 (by omega)
  simpa using this
theorem laws_heldIntS_marks (k : Nat) (m : Int) (n : Nat) (hk : 2000001 ≤ k) (hl : n ≤ 2000000) (h0 : 0 ≤ m) (h1 : m ≤ 10000000000) : laws_heldIntS.f k (marks m n) m = some (m + n) := by
  rw [laws_heldIntS_f k (marks m n) m hk (by rw [length_marks]; exact hl) h0 h1, length_marks, if_pos rfl]
theorem impl_highest_l0 (l : List Int) (hl : l.length ≤ 1000) (ht : Trits l) : ∀ (i k : Nat) (x : Int), i ≤ l.length → i < k → x = (i : Int) - 1 → impl_highest.l0 k l x = some (sg (val (l.take i))) := by
  intro i
  induction i with
  | zero =>
    intro k x h hk hx
    obtain ⟨k, rfl⟩ : ∃ m, k = m + 1 := ⟨k - 1, by omega⟩
    rw [impl_highest.l0, if_neg (by omega)]
    rfl
  | succ i ih =>
    intro k x h hk hx
    obtain ⟨k, rfl⟩ : ∃ m, k = m + 1 := ⟨k - 1, by omega⟩
    obtain rfl : x = (i : Int) := by omega
    have hy := ht _ (rd_mem l i (by omega))
    have lt : (l.take i).length = i := by rw [List.length_take]; omega
    have bd := val_bd (l.take i) (ht.take i)
    have p := pow3_lim i
    have va : val (l.take (i + 1)) = val (l.take i) + pow3 i * rd l (i : Int) := by
      rw [take_rd l i (by omega), val_append, lt]
      simp [val]
    rw [lt] at bd
    have ln := lim_nonneg i
    rw [impl_highest.l0, if_pos (by omega), if_pos (by omega), if_pos (by omega), va]
    generalize rd l (i : Int) = y at *
    unfold Trit at hy
    have : y = -1 ∨ y = 0 ∨ y = 1 := by omega
    rcases this with rfl | rfl | rfl
    · rw [if_neg (by omega)]
      unfold sg
      rw [if_pos (by omega)]
    · rw [if_pos rfl, Int.mul_zero, Int.add_zero]
      exact ih k _ (by omega) (by omega) (by rw [w64 _ (by omega) (by omega)])
    · rw [if_neg (by omega)]
      unfold sg
      rw [if_neg (by omega), if_pos (by omega)]
theorem laws_eqFloating_f (k : Nat) (a : List Int) (ea : Int) (b : List Int) (eb : Int) (hk : 2000001 ≤ k) (hl : a.length ≤ 2000000) : laws_eqFloating.f k a ea b eb = some (decide (a = b ∧ ea = eb)) := by
  unfold laws_eqFloating.f
  rw [laws_eqIntS_f k a b hk hl, bsome]
  by_cases h : a = b <;> by_cases h2 : ea = eb <;> simp [h, h2]
theorem laws_eqFloating_same (k : Nat) (a : List Int) (ea : Int) (hk : 2000001 ≤ k) (hl : a.length ≤ 2000000) : laws_eqFloating.f k a ea a ea = some true := by
  rw [laws_eqFloating_f k a ea a ea hk hl]; simp
theorem laws_markFloating_f (k : Nat) (l : List Int) (e m : Int) (hk : 2000001 ≤ k) (hl : l.length ≤ 2000000) (h0 : 0 ≤ m) (h1 : m ≤ 10000000000) : laws_markFloating.f k l e m = some (m + l.length, marks m l.length) := by
  unfold laws_markFloating.f
  rw [laws_markIntS_f k l m hk hl h0 h1, bsome]
theorem laws_heldFloating_marks (k : Nat) (m : Int) (n : Nat) (e : Int) (hk : 2000001 ≤ k) (hl : n ≤ 2000000) (h0 : 0 ≤ m) (h1 : m ≤ 10000000000) : laws_heldFloating.f k (marks m n) e m = some (m + n) := by
  unfold laws_heldFloating.f
  rw [laws_heldIntS_marks k m n hk hl h0 h1, bsome, if_neg (by omega)]
theorem impl_highest_f (k : Nat) (l : List Int) (hk : 2000 ≤ k) (hl : l.length ≤ 1000) (ht : Trits l) : impl_highest.f k l = some (sg (val l)) := by
  unfold impl_highest.f
  have := impl_highest_l0 l hl ht l.length k ((l.length : Int) - 1) (by omega) (by omega) rfl
  rw [List.take_length] at this
  rw [w64 _ (by omega) (by omega), this]
theorem sg_zero (v : Int) : sg v = 0 ↔ v = 0 := by
  unfold sg
  split
  · omega
  · split <;> omega
theorem impl_IsFloat_f (k : Nat) (l : List Int) (e : Int) (hk : 2000001 ≤ k) (hl : l.length ≤ 2000000) : impl_IsFloat.f k l e = some (decide (Fl l e)) := by
  unfold impl_IsFloat.f
  by_cases h6 : (l.length : Int) = 6
  · rw [if_pos h6, impl_trits_f k l hk hl, bsome]
    by_cases ht : Trits l
    · rw [if_pos (by simpa using ht)]
      by_cases h1 : e < -20
      · rw [if_pos h1, decide_eq_false]; intro h; have := h.2.2.1; omega
      · rw [if_neg h1]
        by_cases h2 : e > 20
        · rw [if_pos h2, decide_eq_false]; intro h; have := h.2.2.2.1; omega
        · rw [if_neg h2, if_pos (by omega)]
          have er : rd l 5 = l.getD 5 0 := rfl
          by_cases h3 : rd l 5 = 0
          · rw [if_pos h3, impl_highest_f k l (by omega) (by omega) ht, bsome]
            by_cases h4 : val l = 0
            · rw [if_pos ((sg_zero _).2 h4)]
              congr 1
              by_cases h5 : e = 0
              · subst h5; rw [decide_eq_true]; rfl; exact ⟨by omega, ht, by decide, by decide, .inr ⟨h4, rfl⟩⟩
              · rw [decide_eq_false]; simp [h5]
                intro h; rcases h.2.2.2.2 with h | h
                · exact h (er ▸ h3)
                · exact h5 h.2
            · rw [if_neg (fun h => h4 ((sg_zero _).1 h)), decide_eq_false]
              intro h; rcases h.2.2.2.2 with h | h
              · exact h (er ▸ h3)
              · exact h4 h.1
          · rw [if_neg h3, decide_eq_true]
            exact ⟨by omega, ht, by omega, by omega, .inl (fun h => h3 (er.trans h))⟩
    · rw [if_neg (by simpa using ht), decide_eq_false]; intro h; exact ht h.2.1
  · rw [if_neg h6, decide_eq_false]; intro h; have := h.1; omega
theorem spec_IsFloat_f (k : Nat) (l : List Int) (e : Int) (hk : 2000001 ≤ k) (hl : l.length ≤ 2000000) : spec_IsFloat.f k l e = some (decide (Fl l e)) := by
  unfold spec_IsFloat.f
  rw [spec_IsWord_f k l hk hl, bsome]
  by_cases hw : Word l
  · rw [if_pos (by simpa using hw)]
    by_cases h6 : (l.length : Int) = 6
    · rw [if_pos h6, spec_l1In_f, bsome]
      by_cases hr : -20 ≤ e ∧ e ≤ 20
      · rw [if_pos (by simpa using hr), if_pos (by omega)]
        have er : rd l 5 = l.getD 5 0 := rfl
        by_cases h3 : rd l 5 = 0
        · rw [if_pos h3]
          by_cases h5 : e = 0
          · rw [if_pos h5, spec_l2Value_f k l (by omega) hw.2.1 hw.2.2.digs, bsome]
            by_cases h4 : val l = 0
            · rw [decide_eq_true (p := Fl l e) ⟨by omega, hw.2.2, by omega, by omega, .inr ⟨h4, h5⟩⟩, h4]; rfl
            · rw [decide_eq_false]
              · simp [h4]
              · intro h; rcases h.2.2.2.2 with h | h
                · exact h (er ▸ h3)
                · exact h4 h.1
          · rw [if_neg h5, decide_eq_false]; intro h; rcases h.2.2.2.2 with h | h
            · exact h (er ▸ h3)
            · exact h5 h.2
        · rw [if_neg h3, decide_eq_true]; exact ⟨by omega, hw.2.2, by omega, by omega, .inl (fun h => h3 (er.trans h))⟩
      · rw [if_neg (by simpa using hr), decide_eq_false]; intro h; exact hr ⟨h.2.2.1, h.2.2.2.1⟩
    · rw [if_neg h6, decide_eq_false]; intro h; have := h.1; omega
  · rw [if_neg (by simpa using hw), decide_eq_false]; intro h; exact hw ⟨by have := h.1; omega, by have := h.1; omega, h.2.1⟩
/-- More rounds tell the same. -/
theorem up_of {α : Type} (F : Nat → Option α) (hm : ∀ k, LeO (F k) (F (k + 1))) (r : α) (n : Nat) (h : F n = some r) : ∀ k, n ≤ k → F k = some r := by
  intro k hk
  induction k with
  | zero => have : n = 0 := by omega
            subst this; exact h
  | succ k ih =>
    by_cases c : n = k + 1
    · rw [← c]; exact h
    · exact hm k r (ih (by omega))
/-- All lists of n trits. -/
def tritsL : Nat → List (List Int)
  | 0 => [[]]
  | n + 1 => (tritsL n).flatMap fun w => [(-1) :: w, 0 :: w, 1 :: w]
theorem mem_tritsL : ∀ (n : Nat) (l : List Int), l.length = n → Trits l → l ∈ tritsL n
  | 0, l, h, _ => by cases l with
    | nil => simp [tritsL]
    | cons a r => simp at h
  | n + 1, l, h, t => by
    cases l with
    | nil => simp at h
    | cons a r =>
      have ht : Trit a := t a (by simp)
      have ih := mem_tritsL n r (by simpa using h) (fun x hx => t x (by simp [hx]))
      simp only [tritsL, List.mem_flatMap]
      refine ⟨r, ih, ?_⟩
      rcases (show a = -1 ∨ a = 0 ∨ a = 1 by unfold Trit at ht; omega) with rfl | rfl | rfl <;> simp
/-- A trit's letter, and a word's text: its highest trit first. -/
def chT (t : Int) : UInt8 := if t = 1 then 43 else if t = 0 then 48 else 45
def txtW (l : List Int) : List UInt8 := (l.reverse).map chT
theorem txtW_len (l : List Int) : (txtW l).length = l.length := by simp [txtW]
/-- The numeral of a number of at most two digits. -/
def ddS (u : Nat) : List UInt8 := if u < 10 then [UInt8.ofNat (48 + u)] else [UInt8.ofNat (48 + u / 10), UInt8.ofNat (48 + u % 10)]
def numS (e : Int) : List UInt8 := if e < 0 then 45 :: ddS e.natAbs else ddS e.toNat
theorem decDigits_ddS (u : Nat) (h : u < 100) : Lib.decDigits u = ddS u := by
  rw [Lib.decDigits]
  unfold ddS
  by_cases c : u < 10
  · rw [dif_pos c, if_pos c]
  · rw [dif_neg c, if_neg c, Lib.decDigits, dif_pos (by omega)]; rfl
theorem itoa_numS (e : Int) (h0 : -99 ≤ e) (h1 : e ≤ 99) : Lib.itoa e = numS e := by
  unfold Lib.itoa numS
  by_cases c : e < 0
  · rw [if_pos c, if_pos c, decDigits_ddS _ (by omega)]
  · rw [if_neg c, if_neg c, decDigits_ddS _ (by omega)]
theorem numS_len (e : Int) : 1 ≤ (numS e).length ∧ (numS e).length ≤ 3 := by
  have h : ∀ u, 1 ≤ (ddS u).length ∧ (ddS u).length ≤ 2 := fun u => by unfold ddS; split <;> simp
  unfold numS
  split
  · have := h e.natAbs; simp only [List.length_cons]; omega
  · have := h e.toNat; omega
/-- The numbers from -20 to 20. -/
def expsL : List Int := (List.range 41).map fun i : Nat => (i : Int) - 20
theorem mem_expsL (e : Int) (h0 : -20 ≤ e) (h1 : e ≤ 20) : e ∈ expsL := by
  unfold expsL
  rw [List.mem_map]
  exact ⟨(e + 20).toNat, List.mem_range.mpr (by omega), by omega⟩
/-- The text of a floating number. -/
def txtF (l : List Int) (e : Int) : ByteArray := ⟨(txtW l ++ 120 :: numS e).toArray⟩
theorem sizeW (l : List UInt8) : (⟨l.toArray⟩ : ByteArray).size = l.length := by simp [ByteArray.size]
/-- The letters of the trits. -/
def goodC (c : UInt8) : Prop := c = 43 ∨ c = 48 ∨ c = 45
def trS (c : UInt8) : Int := if c = 45 then -1 else if c = 48 then 0 else if c = 43 then 1 else 2
theorem goodC_of {c : UInt8} (h : Trit (trS c)) : goodC c ∧ chT (trS c) = c := by
  unfold trS goodC at *
  by_cases h1 : c = 45
  · subst h1; exact ⟨by simp, by decide⟩
  by_cases h2 : c = 48
  · subst h2; exact ⟨by simp, by decide⟩
  by_cases h3 : c = 43
  · subst h3; exact ⟨by simp, by decide⟩
  rw [if_neg h1, if_neg h2, if_neg h3] at h
  exact absurd h (by decide)
theorem trS_good {c : UInt8} (h : goodC c) : Trit (trS c) := by
  rcases h with rfl | rfl | rfl <;> decide
theorem lenS (s : ByteArray) : s.data.toList.length = s.size := by rw [Array.length_toList]; rfl
theorem bt_list (s : ByteArray) (i : Nat) (h : i < s.size) : bt s (i : Int) = ((s.data.toList[i]'(by rw [lenS]; exact h)).toNat : Int) := by
  have := bt_at s (i : Int) (by simpa using h)
  rw [← this]
  simp [ByteArray.getElem_eq_getElem_data]
theorem byte_eq {c : UInt8} {n : Nat} (hn : n < 256) : ((c.toNat : Int) = (n : Int)) ↔ c = UInt8.ofNat n := by
  constructor
  · intro h
    have h2 : c.toNat = n := by omega
    rw [← h2]; simp
  · rintro rfl
    simp [Nat.mod_eq_of_lt hn]
theorem spec_l1Trit_f (c : UInt8) : spec_l1Trit.f (c.toNat : Int) = some (trS c) := by
  unfold spec_l1Trit.f trS
  have h1 : (c.toNat : Int) = 45 ↔ c = 45 := byte_eq (c := c) (n := 45) (by omega)
  have h2 : (c.toNat : Int) = 48 ↔ c = 48 := byte_eq (c := c) (n := 48) (by omega)
  have h3 : (c.toNat : Int) = 43 ↔ c = 43 := byte_eq (c := c) (n := 43) (by omega)
  by_cases e1 : c = 45
  · rw [if_pos (h1.mpr e1), if_pos e1]
  rw [if_neg (fun q => e1 (h1.mp q)), if_neg e1]
  by_cases e2 : c = 48
  · rw [if_pos (h2.mpr e2), if_pos e2]
  rw [if_neg (fun q => e2 (h2.mp q)), if_neg e2]
  by_cases e3 : c = 43
  · rw [if_pos (h3.mpr e3), if_pos e3]
  rw [if_neg (fun q => e3 (h3.mp q)), if_neg e3]
/-- Six good letters are the text of a word. -/
theorem good_txt (l : List UInt8) (hl : l.length = 6) (h : ∀ c ∈ l, goodC c) : ∃ w, w ∈ tritsL 6 ∧ w.length = 6 ∧ l = txtW w := by
  refine ⟨(l.map trS).reverse, mem_tritsL 6 _ (by simpa using hl) ?_, by simpa using hl, ?_⟩
  · intro a ha
    rw [List.mem_reverse, List.mem_map] at ha
    obtain ⟨c, hc, rfl⟩ := ha
    exact trS_good (h c hc)
  · unfold txtW
    rw [List.reverse_reverse, List.map_map]
    conv => lhs; rw [← List.map_id l]
    apply List.map_congr_left
    intro c hc
    exact ((goodC_of (trS_good (h c hc))).2).symm
theorem spec_ParseWord_l0 (s : ByteArray) (hs : s.size ≤ 30) : ∀ (n k : Nat) (acc : List Int), n ≤ s.size → acc.length + n ≤ 100 → n + 2000100 < k →
    spec_ParseWord.l0 k s acc ((n : Int) - 1) = some (if Word (acc ++ ((s.data.toList.take n).reverse).map trS) then (acc ++ ((s.data.toList.take n).reverse).map trS, true) else ([], false))
  | 0, k, acc, hn, ha, hk => by
    obtain ⟨k, rfl⟩ : ∃ m, k = m + 1 := ⟨k - 1, by omega⟩
    unfold spec_ParseWord.l0
    rw [if_neg (by omega), spec_IsWord_f k acc (by omega) (by omega), bsome]
    by_cases h : Word acc <;> simp [h]
  | n + 1, k, acc, hn, ha, hk => by
    obtain ⟨k, rfl⟩ : ∃ m, k = m + 1 := ⟨k - 1, by omega⟩
    have hb := bt_list s n (by omega)
    have hi : ((n + 1 : Nat) : Int) - 1 = (n : Int) := by omega
    unfold spec_ParseWord.l0
    rw [hi, if_pos (by omega), if_pos (by omega), if_pos (by omega), hb, spec_l1Trit_f, bsome, if_pos (by omega), w64 _ (by omega) (by omega)]
    rw [spec_ParseWord_l0 s hs n k _ (by omega) (by simp; omega) (by omega)]
    have e : acc ++ [trS (s.data.toList[n]'(by rw [lenS]; omega))] ++ ((s.data.toList.take n).reverse).map trS = acc ++ ((s.data.toList.take (n + 1)).reverse).map trS := by
      rw [List.take_succ_eq_append_getElem (by rw [lenS]; omega)]
      simp
    rw [e]
/-- What six letters are read as. -/
theorem spec_ParseWord_f (k : Nat) (s : ByteArray) (hk : 2000200 ≤ k) (hs : s.size = 6) : ∃ w b, spec_ParseWord.f k s = some (w, b) ∧ w.length ≤ 6 ∧ (b = true → s.data.toList = txtW w) := by
  unfold spec_ParseWord.f
  have hd : (decide ((1 : Int) ≤ (s.size : Int) ∧ (s.size : Int) ≤ 30)) = true := by simp; omega
  rw [spec_l1In_f, bsome, if_pos hd, w64 _ (by omega) (by omega), spec_ParseWord_l0 s (by omega) s.size k [] (Nat.le_refl _) (by simp; omega) (by omega)]
  have ht : s.data.toList.take s.size = s.data.toList := List.take_of_length_le (by rw [lenS]; omega)
  rw [ht, List.nil_append]
  by_cases h : Word (s.data.toList.reverse.map trS)
  · refine ⟨_, true, by rw [if_pos h], by rw [List.length_map, List.length_reverse, lenS]; omega, fun _ => ?_⟩
    unfold txtW
    rw [← List.map_reverse, List.reverse_reverse, List.map_map]
    conv => lhs; rw [← List.map_id s.data.toList]
    apply List.map_congr_left
    intro c hc
    exact ((goodC_of (h.2.2 _ (List.mem_map.mpr ⟨c, List.mem_reverse.mpr hc, rfl⟩))).2).symm
  · exact ⟨[], false, by rw [if_neg h], by simp, fun h => by cases h⟩
theorem words_read : (tritsL 6).all (fun l => decide (spec_ParseWord.f 40 ⟨(txtW l).toArray⟩ = some (l, true))) = true := by decide +kernel
theorem spec_ParseWord_txt (k : Nat) (l : List Int) (hk : 40 ≤ k) (hl : l.length = 6) (ht : Trits l) : spec_ParseWord.f k ⟨(txtW l).toArray⟩ = some (l, true) :=
  up_of (fun k => spec_ParseWord.f k ⟨(txtW l).toArray⟩) (spec_ParseWord.mono _) _ 40 (of_decide_eq_true (List.all_eq_true.mp words_read l (mem_tritsL 6 l hl ht))) k hk
theorem txtW_inj {l m : List Int} (hl : l.length = 6) (ht : Trits l) (hm : m.length = 6) (tm : Trits m) (h : txtW l = txtW m) : l = m := by
  have a := spec_ParseWord_txt 40 l (Nat.le_refl _) hl ht
  rw [h, spec_ParseWord_txt 40 m (Nat.le_refl _) hm tm] at a
  exact (congrArg (·.1) (Option.some.inj a)).symm
theorem exps_read : expsL.all (fun e => decide (spec_l5Read.f 40 ⟨(numS e).toArray⟩ = some (e, true))) = true := by decide +kernel
theorem spec_l5Read_num (k : Nat) (e : Int) (hk : 40 ≤ k) (h0 : -20 ≤ e) (h1 : e ≤ 20) : spec_l5Read.f k ⟨(numS e).toArray⟩ = some (e, true) :=
  up_of (fun k => spec_l5Read.f k ⟨(numS e).toArray⟩) (spec_l5Read.mono _) _ 40 (of_decide_eq_true (List.all_eq_true.mp exps_read e (mem_expsL e h0 h1))) k hk
theorem numS_inj {e d : Int} (h0 : -20 ≤ e) (h1 : e ≤ 20) (h2 : -20 ≤ d) (h3 : d ≤ 20) (h : numS e = numS d) : e = d := by
  have a := spec_l5Read_num 40 e (Nat.le_refl _) h0 h1
  rw [h, spec_l5Read_num 40 d (Nat.le_refl _) h2 h3] at a
  exact (congrArg (·.1) (Option.some.inj a)).symm
theorem txtF_inj {l m : List Int} {e d : Int} (h : Fl l e) (g : Fl m d) (q : txtF l e = txtF m d) : l = m ∧ e = d := by
  have q2 : txtW l ++ 120 :: numS e = txtW m ++ 120 :: numS d := by
    have := congrArg (fun s : ByteArray => s.data.toList) q
    simpa [txtF] using this
  obtain ⟨a, b⟩ := List.append_inj q2 (by rw [txtW_len, txtW_len, h.1, g.1])
  exact ⟨txtW_inj h.1 h.2.1 g.1 g.2.1 a, numS_inj h.2.2.1 h.2.2.2.1 g.2.2.1 g.2.2.2.1 (List.cons.inj b).2⟩
/-- What a text is read as: the number of which it is the text, and nothing otherwise. -/
def PFl (s : ByteArray) (r : List Int × Int × Bool) : Prop := (∃ l e, Fl l e ∧ s = txtF l e ∧ r = (l, e, true)) ∨ ((∀ l e, Fl l e → s ≠ txtF l e) ∧ r = ([], 0, false))
theorem PFl_one {s : ByteArray} {a b : List Int × Int × Bool} (h : PFl s a) (g : PFl s b) : a = b := by
  rcases h with ⟨l, e, f, hs, rfl⟩ | ⟨n, rfl⟩
  · rcases g with ⟨m, d, f2, hs2, rfl⟩ | ⟨n2, rfl⟩
    · obtain ⟨rfl, rfl⟩ := txtF_inj f f2 (hs.symm.trans hs2); rfl
    · exact absurd hs (n2 l e f)
  · rcases g with ⟨m, d, f2, hs2, rfl⟩ | ⟨n2, rfl⟩
    · exact absurd hs2 (n m d f2)
    · rfl
theorem txtF_size (l : List Int) (e : Int) (h : Fl l e) : (txtF l e).size = 7 + (numS e).length := by
  unfold txtF
  rw [sizeW, List.length_append, txtW_len, h.1, List.length_cons]; omega
theorem txtF_six (l : List Int) (e : Int) (h : Fl l e) : bt (txtF l e) 6 = 120 := by
  have hs := txtF_size l e h
  have := bt_list (txtF l e) 6 (by omega)
  rw [show ((6 : Nat) : Int) = 6 from rfl] at this
  rw [this]
  have e2 : (txtF l e).data.toList = txtW l ++ 120 :: numS e := by simp [txtF]
  have e3 : (txtF l e).data.toList[6]? = some 120 := by
    rw [e2, List.getElem?_append_right (by rw [txtW_len, h.1]; omega), txtW_len, h.1]; rfl
  have e4 : (txtF l e).data.toList[6]'(by rw [lenS]; omega) = 120 := (List.getElem?_eq_some_iff.mp e3).2
  rw [e4]; rfl
theorem spec_l5Read_l0 (s : ByteArray) (hs : s.size ≤ 15) : ∀ (d k i : Nat) (acc : Int), i + d = s.size → d < k → 0 ≤ acc → acc < 10 ^ i →
    ∃ v b, spec_l5Read.l0 k s acc (i : Int) = some (v, b) ∧ 0 ≤ v ∧ v < 10 ^ 15 ∧ (b = true → acc * 10 ^ d ≤ v)
  | 0, k, i, acc, hd, hk, h0, h1 => by
    obtain ⟨k, rfl⟩ : ∃ m, k = m + 1 := ⟨k - 1, by omega⟩
    unfold spec_l5Read.l0
    rw [if_neg (by omega)]
    refine ⟨_, _, rfl, h0, Int.lt_of_lt_of_le h1 ?_, fun _ => by simp⟩
    exact_mod_cast Nat.pow_le_pow_right (by omega) (by omega)
  | d + 1, k, i, acc, hd, hk, h0, h1 => by
    obtain ⟨k, rfl⟩ : ∃ m, k = m + 1 := ⟨k - 1, by omega⟩
    unfold spec_l5Read.l0
    have hb := bt_range s (i : Int)
    have hp : (10 : Int) ^ i ≤ 10 ^ 14 := by exact_mod_cast Nat.pow_le_pow_right (by omega) (by omega)
    rw [if_pos (by omega), if_pos (by omega)]
    by_cases c1 : bt s (i : Int) < 48
    · rw [if_pos c1]; exact ⟨0, false, rfl, by omega, by decide, fun h => by cases h⟩
    rw [if_neg c1]
    by_cases c2 : bt s (i : Int) > 57
    · rw [if_pos c2]; exact ⟨0, false, rfl, by omega, by decide, fun h => by cases h⟩
    rw [if_neg c2]
    have hw : wrap64 ((wrap64 (10 * acc)) + (((bt s (i : Int)) - 48) % 256)) = 10 * acc + (bt s (i : Int) - 48) := by
      have hp2 : (10 : Int) ^ 14 = 100000000000000 := by decide
      rw [w64 (10 * acc) (by omega) (by omega), Int.emod_eq_of_lt (by omega) (by omega), w64 _ (by omega) (by omega)]
    rw [hw, w64 ((i : Int) + 1) (by omega) (by omega)]
    have hq : (10 : Int) ^ (i + 1) = 10 ^ i * 10 := Int.pow_succ _ _
    obtain ⟨v, b, e, v0, v1, v2⟩ := spec_l5Read_l0 s hs d k (i + 1) (10 * acc + (bt s (i : Int) - 48)) (by omega) (by omega) (by omega) (by omega)
    refine ⟨v, b, e, v0, v1, fun hb2 => ?_⟩
    have q := v2 hb2
    have hr : (10 : Int) ^ (d + 1) = 10 * 10 ^ d := by rw [Int.pow_succ, Int.mul_comm]
    rw [hr, ← Int.mul_assoc, Int.mul_comm acc 10]
    refine Int.le_trans ?_ q
    exact Int.mul_le_mul_of_nonneg_right (by omega) (Int.pow_nonneg (by omega))
theorem l5j1e (k : Nat) (s : ByteArray) (b : Bool) : spec_l5Read.j1 (k + 1) s b = if b = true then (some (0, false)) else (spec_l5Read.l0 k s 0 0) := by rw [spec_l5Read.j1]
theorem l5j0e (k : Nat) (s : ByteArray) (b : Bool) : spec_l5Read.j0 (k + 1) s b = if b = true then (if 1 ≤ (s.size : Int) then ((spec_l5Read.f k (s.extract 1 s.size)).bind fun bt101 => (if bt101.2 = true then (some (wrap64 (-bt101.1), (bt101.1 != 0))) else (some (wrap64 (-bt101.1), false)))) else (none)) else (if (s.size : Int) < 1 then (spec_l5Read.j1 k s true) else (if (s.size : Int) > 15 then (spec_l5Read.j1 k s true) else (if 0 < (s.size : Int) then (if (bt s 0) = 48 then (spec_l5Read.j1 k s (decide ((s.size : Int) > 1))) else (spec_l5Read.j1 k s false)) else (none)))) := by rw [spec_l5Read.j0]
theorem l5l0e (k : Nat) (s : ByteArray) (x6 x7 : Int) : spec_l5Read.l0 (k + 1) s x6 x7 = if x7 < (s.size : Int) then (if 0 ≤ x7 then (if (bt s x7) < 48 then (some (0, false)) else (if (bt s x7) > 57 then (some (0, false)) else (spec_l5Read.l0 k s (wrap64 ((wrap64 (10 * x6)) + (((bt s x7) - 48) % 256))) (wrap64 (x7 + 1))))) else (none)) else (some (x6, true)) := by rw [spec_l5Read.l0]
theorem l5fe (k : Nat) (s : ByteArray) : spec_l5Read.f (k + 1) s = if (s.size : Int) > 1 then (if 0 < (s.size : Int) then (if (bt s 0) = 45 then (if 1 < (s.size : Int) then (spec_l5Read.j0 k s ((bt s 1) != 45)) else (none)) else (spec_l5Read.j0 k s false)) else (none)) else (spec_l5Read.j0 k s false) := by rw [spec_l5Read.f]
/-- The digits of a numeral, without a sign. -/
theorem spec_l5Read_j0 (s : ByteArray) (k : Nat) (hk : 40 ≤ k) : ∃ v b, spec_l5Read.j0 k s false = some (v, b) ∧ 0 ≤ v ∧ v < 10 ^ 15 ∧ (b = true → v ≤ 20 → s.data.toList = ddS v.toNat) := by
  obtain ⟨k, rfl⟩ : ∃ m, k = m + 2 := ⟨k - 2, by omega⟩
  have no : ∃ v b, (some ((0 : Int), false)) = some (v, b) ∧ 0 ≤ v ∧ v < 10 ^ 15 ∧ (b = true → v ≤ 20 → s.data.toList = ddS v.toNat) := ⟨0, false, rfl, by omega, by decide, fun h => by cases h⟩
  rw [l5j0e]
  rw [if_neg (by decide)]
  by_cases c1 : (s.size : Int) < 1
  · rw [if_pos c1]; rw [l5j1e]; rw [if_pos rfl]; exact no
  rw [if_neg c1]
  by_cases c2 : (s.size : Int) > 15
  · rw [if_pos c2]; rw [l5j1e]; rw [if_pos rfl]; exact no
  rw [if_neg c2, if_pos (by omega)]
  by_cases c3 : bt s 0 = 48 ∧ (s.size : Int) > 1
  · rw [if_pos c3.1]; rw [l5j1e]; rw [if_pos (by simpa using c3.2)]; exact no
  have e : (if bt s 0 = 48 then spec_l5Read.j1 (k + 1) s (decide ((s.size : Int) > 1)) else spec_l5Read.j1 (k + 1) s false) = spec_l5Read.l0 k s 0 0 := by
    by_cases c4 : bt s 0 = 48
    · have c5 : ¬ ((s.size : Int) > 1) := fun q => c3 ⟨c4, q⟩
      rw [if_pos c4, decide_eq_false c5]; rw [l5j1e]; rw [if_neg (by decide)]
    · rw [if_neg c4]; rw [l5j1e]; rw [if_neg (by decide)]
  rw [e]
  obtain ⟨v, b, r, v0, v1, _⟩ := spec_l5Read_l0 s (by omega) s.size k 0 0 (by omega) (by omega) (by omega) (by decide)
  refine ⟨v, b, r, v0, v1, fun hb hv => ?_⟩
  obtain ⟨k, rfl⟩ : ∃ m, k = m + 3 := ⟨k - 3, by omega⟩
  have hb0 := bt_range s 0
  have l0 := bt_list s 0 (by omega)
  rw [show ((0 : Nat) : Int) = 0 from rfl] at l0 r
  rw [l5l0e] at r
  rw [if_pos (by omega), if_pos (by omega)] at r
  by_cases d1 : bt s 0 < 48
  · rw [if_pos d1] at r; have := congrArg (·.2) (Option.some.inj r); simp only at this; rw [hb] at this; cases this
  rw [if_neg d1] at r
  by_cases d2 : bt s 0 > 57
  · rw [if_pos d2] at r; have := congrArg (·.2) (Option.some.inj r); simp only at this; rw [hb] at this; cases this
  have w0 : wrap64 ((wrap64 (10 * 0)) + ((bt s 0 - 48) % 256)) = bt s 0 - 48 := by
    rw [w64 (10 * 0) (by omega) (by omega), Int.emod_eq_of_lt (by omega) (by omega), w64 _ (by omega) (by omega)]; omega
  rw [if_neg d2, w0, w64 (0 + 1) (by omega) (by omega)] at r
  have byte : ∀ (c : UInt8) (n : Int), (c.toNat : Int) = n → 0 ≤ n → n ≤ 255 → c = UInt8.ofNat n.toNat := fun c n h h0 h1 => by
    rw [← h]; simp
  by_cases s1 : s.size = 1
  · rw [l5l0e] at r
    rw [if_neg (by omega)] at r
    have hv2 : v = bt s 0 - 48 := (congrArg (·.1) (Option.some.inj r)).symm
    have hl : s.data.toList.length = 1 := by rw [lenS, s1]
    obtain ⟨c, hc⟩ := List.length_eq_one_iff.mp hl
    have l0' : bt s 0 = (c.toNat : Int) := by rw [l0]; simp [hc]
    unfold ddS
    rw [hc, if_pos (by omega), byte c (48 + v) (by omega) (by omega) (by omega), show (48 + v).toNat = 48 + v.toNat by omega]
  by_cases s2 : s.size = 2
  · have hb1 := bt_range s 1
    have l1 := bt_list s 1 (by omega)
    rw [show ((1 : Nat) : Int) = 1 from rfl] at l1
    rw [show (0 : Int) + 1 = 1 from rfl] at r
    rw [l5l0e] at r
    rw [if_pos (by omega), if_pos (by omega)] at r
    by_cases d3 : bt s 1 < 48
    · rw [if_pos d3] at r; have := congrArg (·.2) (Option.some.inj r); simp only at this; rw [hb] at this; cases this
    rw [if_neg d3] at r
    by_cases d4 : bt s 1 > 57
    · rw [if_pos d4] at r; have := congrArg (·.2) (Option.some.inj r); simp only at this; rw [hb] at this; cases this
    have w1 : wrap64 ((wrap64 (10 * (bt s 0 - 48))) + ((bt s 1 - 48) % 256)) = 10 * (bt s 0 - 48) + (bt s 1 - 48) := by
      rw [w64 (10 * _) (by omega) (by omega), Int.emod_eq_of_lt (by omega) (by omega), w64 _ (by omega) (by omega)]
    rw [if_neg d4, w1, w64 (1 + 1) (by omega) (by omega)] at r
    rw [l5l0e] at r
    rw [if_neg (by omega)] at r
    have hv2 : v = 10 * (bt s 0 - 48) + (bt s 1 - 48) := (congrArg (·.1) (Option.some.inj r)).symm
    have hl : s.data.toList.length = 2 := by rw [lenS, s2]
    obtain ⟨c, d, hc⟩ : ∃ c d, s.data.toList = [c, d] := by
      cases q : s.data.toList with
      | nil => rw [q] at hl; simp at hl
      | cons c r =>
        rw [q] at hl
        obtain ⟨d, hd⟩ := List.length_eq_one_iff.mp (show r.length = 1 by simp at hl; omega)
        exact ⟨c, d, by rw [hd]⟩
    have l0' : bt s 0 = (c.toNat : Int) := by rw [l0]; simp [hc]
    have l1' : bt s 1 = (d.toNat : Int) := by rw [l1]; simp [hc]
    have nz : bt s 0 ≠ 48 := fun q => c3 ⟨q, by omega⟩
    unfold ddS
    rw [hc, if_neg (by omega), byte c (48 + v / 10) (by omega) (by omega) (by omega), byte d (48 + v % 10) (by omega) (by omega) (by omega), show (48 + v / 10).toNat = 48 + v.toNat / 10 by omega, show (48 + v % 10).toNat = 48 + v.toNat % 10 by omega]
  · exfalso
    have nz : bt s 0 ≠ 48 := fun q => c3 ⟨q, by omega⟩
    obtain ⟨v', b', r', _, _, lo⟩ := spec_l5Read_l0 s (by omega) (s.size - 1) (k + 2) 1 (bt s 0 - 48) (by omega) (by omega) (by omega) (by omega)
    rw [show ((1 : Nat) : Int) = 0 + 1 from rfl] at r'
    rw [r'] at r
    have hv2 : v' = v := congrArg (·.1) (Option.some.inj r)
    have hb2 : b' = b := congrArg (·.2) (Option.some.inj r)
    have q := lo (by rw [hb2]; exact hb)
    have p : (10 : Int) ^ 2 ≤ 10 ^ (s.size - 1) := by exact_mod_cast Nat.pow_le_pow_right (by omega) (by omega)
    have p2 : (1 : Int) * 10 ^ (s.size - 1) ≤ (bt s 0 - 48) * 10 ^ (s.size - 1) := Int.mul_le_mul_of_nonneg_right (by omega) (Int.pow_nonneg (by omega))
    omega
theorem spec_l5Read_f (s : ByteArray) (k : Nat) (hk : 100 ≤ k) : ∃ v b, spec_l5Read.f k s = some (v, b) ∧ (b = true → -20 ≤ v → v ≤ 20 → s.data.toList = numS v) := by
  have pos : ∀ (s : ByteArray) (k : Nat), 40 ≤ k → ∃ v b, spec_l5Read.j0 k s false = some (v, b) ∧ (b = true → -20 ≤ v → v ≤ 20 → s.data.toList = numS v) := fun s k hk => by
    obtain ⟨v, b, e, v0, v1, h⟩ := spec_l5Read_j0 s k hk
    refine ⟨v, b, e, fun hb _ h2 => ?_⟩
    unfold numS
    rw [if_neg (by omega)]
    exact h hb h2
  obtain ⟨k, rfl⟩ : ∃ m, k = m + 3 := ⟨k - 3, by omega⟩
  rw [l5fe]
  by_cases c1 : (s.size : Int) > 1
  · rw [if_pos c1, if_pos (by omega)]
    by_cases c2 : bt s 0 = 45
    · rw [if_pos c2, if_pos (by omega)]
      by_cases c3 : bt s 1 = 45
      · have : (bt s 1 != 45) = false := by simp [c3]
        rw [this]; exact pos s _ (by omega)
      · have : (bt s 1 != 45) = true := by simp [c3]
        rw [this]
        rw [l5j0e]
        rw [if_pos rfl, if_pos (by omega)]
        have hx : (s.extract 1 s.size).data.toList = s.data.toList.drop 1 := by
          rw [ByteArray.data_extract, Array.toList_extract, List.extract_eq_take_drop, List.take_of_length_le]
          rw [List.length_drop, lenS]
          exact Nat.le_refl _
        have hl : s.data.toList.length = s.size := lenS s
        obtain ⟨c, r, hc⟩ : ∃ c r, s.data.toList = c :: r := by
          cases q : s.data.toList with
          | nil => rw [q] at hl; simp at hl; omega
          | cons c r => exact ⟨c, r, rfl⟩
        have l0 := bt_list s 0 (by omega)
        rw [show ((0 : Nat) : Int) = 0 from rfl] at l0
        have hc0 : c = 45 := by
          have : bt s 0 = (c.toNat : Int) := by rw [l0]; simp [hc]
          exact (byte_eq (n := 45) (by omega)).mp (by omega)
        generalize hy : s.extract 1 s.size = y at hx
        have hyl : y.data.toList = r := by rw [hx, hc]; rfl
        have hys : y.size = s.size - 1 := by rw [← lenS, hyl]; rw [hc] at hl; simp at hl; omega
        have l1 := bt_list s 1 (by omega)
        have ly := bt_list y 0 (by omega)
        have c3' : bt y 0 ≠ 45 := by
          rw [show ((1 : Nat) : Int) = 1 from rfl] at l1
          rw [show ((0 : Nat) : Int) = 0 from rfl] at ly
          intro q
          apply c3
          rw [l1, ← q, ly]
          simp only [hyl, hc, List.getElem_cons_succ]
        obtain ⟨v, b, e, v0, v1, h⟩ := spec_l5Read_j0 y k (by omega)
        have ef : spec_l5Read.f (k + 1) y = some (v, b) := by
          rw [l5fe]
          by_cases d1 : (y.size : Int) > 1
          · rw [if_pos d1, if_pos (by omega), if_neg c3', e]
          · rw [if_neg d1, e]
        have p15 : (10 : Int) ^ 15 = 1000000000000000 := by decide
        rw [ef, bsome, w64 _ (by omega) (by omega)]
        cases b with
        | false => exact ⟨-v, false, by rw [if_neg (by simp)], fun h => by cases h⟩
        | true =>
          refine ⟨-v, v != 0, by rw [if_pos rfl], fun hb h1 h2 => ?_⟩
          have vz : v ≠ 0 := by simpa using hb
          have q := h rfl (by omega)
          unfold numS
          rw [if_pos (by omega), hc, hc0, ← hyl, q, show (-v).natAbs = v.toNat by omega]
    · rw [if_neg c2]; exact pos s _ (by omega)
  · rw [if_neg c1]; exact pos s _ (by omega)
theorem spec_ParseFloat_je (k : Nat) (s : ByteArray) (b : Bool) : spec_ParseFloat.j0 (k + 1) s b = if b = true then (some (([] : List Int), 0, false)) else (if 0 ≤ 6 then (if 6 ≤ (s.size : Int) then ((spec_ParseWord.f k (s.extract 0 6)).bind fun bt102 => (if 7 ≤ (s.size : Int) then ((spec_l5Read.f k (s.extract 7 s.size)).bind fun bt106 => (if bt102.2 = true then (if bt106.2 = true then ((spec_IsFloat.f k bt102.1 bt106.1).bind fun t109 => (if t109 = true then (some (bt102.1, bt106.1, true)) else (some (([] : List Int), 0, false)))) else (some (([] : List Int), 0, false))) else (some (([] : List Int), 0, false)))) else (none))) else (none)) else (none)) := by rw [spec_ParseFloat.j0]
theorem extract_list (s : ByteArray) (a b : Nat) : (s.extract a b).data.toList = (s.data.toList.drop a).take (b - a) := by
  rw [ByteArray.data_extract, Array.toList_extract, List.extract_eq_take_drop]
theorem eqS {s : ByteArray} {l : List UInt8} (h : s.data.toList = l) : s = ⟨l.toArray⟩ := by
  apply ByteArray.ext; rw [← h]
theorem spec_ParseFloat_f (s : ByteArray) (k : Nat) (hk : 3000000 ≤ k) : ∃ r, spec_ParseFloat.f k s = some r ∧ PFl s r := by
  obtain ⟨k, rfl⟩ : ∃ m, k = m + 1 := ⟨k - 1, by omega⟩
  unfold spec_ParseFloat.f
  have no : (∀ l e, Fl l e → s ≠ txtF l e) → ∃ r, (some (([] : List Int), (0 : Int), false)) = some r ∧ PFl s r := fun h => ⟨_, rfl, .inr ⟨h, rfl⟩⟩
  by_cases c1 : (s.size : Int) < 8
  · rw [if_pos c1, spec_ParseFloat_je, if_pos rfl]
    refine no fun l e h q => ?_
    have := txtF_size l e h
    have := numS_len e
    rw [q] at c1
    omega
  rw [if_neg c1, if_pos (by omega), spec_ParseFloat_je]
  by_cases c2 : bt s 6 = 120
  · have : (bt s 6 != 120) = false := by simp [c2]
    rw [this, if_neg (by decide), if_pos (by omega), if_pos (by omega)]
    have hl : s.data.toList.length = s.size := lenS s
    have e6 : (s.extract 0 6).data.toList = s.data.toList.take 6 := by rw [extract_list]; rfl
    have e7 : (s.extract 7 s.size).data.toList = s.data.toList.drop 7 := by
      rw [extract_list, List.take_of_length_le]
      rw [List.length_drop, lenS]; exact Nat.le_refl _
    have z6 : (s.extract 0 6).size = 6 := by rw [← lenS, e6, List.length_take]; omega
    have h6 : s.data.toList = s.data.toList.take 6 ++ 120 :: s.data.toList.drop 7 := by
      have l6 := bt_list s 6 (by omega)
      rw [show ((6 : Nat) : Int) = 6 from rfl, c2] at l6
      have q : s.data.toList[6]'(by rw [lenS]; omega) = 120 := (byte_eq (n := 120) (by omega)).mp l6.symm
      conv => lhs; rw [← List.take_append_drop 6 s.data.toList, List.drop_eq_getElem_cons (i := 6) (by rw [lenS]; omega), q]
    have put : ∀ l e, Fl l e → s = txtF l e → (s.extract 0 6) = ⟨(txtW l).toArray⟩ ∧ (s.extract 7 s.size) = ⟨(numS e).toArray⟩ := fun l e h q => by
      have q2 : s.data.toList = txtW l ++ 120 :: numS e := by rw [q]; simp [txtF]
      rw [h6] at q2
      obtain ⟨a, b⟩ := List.append_inj q2 (by rw [List.length_take, txtW_len, h.1]; omega)
      exact ⟨eqS (e6.trans a), eqS (e7.trans (List.cons.inj b).2)⟩
    obtain ⟨w, b, rw1, wl, wb⟩ := spec_ParseWord_f k (s.extract 0 6) (by omega) z6
    obtain ⟨v, c, rv1, vb⟩ := spec_l5Read_f (s.extract 7 s.size) k (by omega)
    rw [rw1, bsome, if_pos (by omega), rv1, bsome]
    have bad : ∀ l e, Fl l e → s = txtF l e → w = l ∧ b = true ∧ v = e ∧ c = true := fun l e h q => by
      obtain ⟨a1, a2⟩ := put l e h q
      rw [a1, spec_ParseWord_txt k l (by omega) h.1 h.2.1] at rw1
      rw [a2, spec_l5Read_num k e (by omega) h.2.2.1 h.2.2.2.1] at rv1
      obtain ⟨x1, x2⟩ := Prod.mk.inj (Option.some.inj rw1)
      obtain ⟨y1, y2⟩ := Prod.mk.inj (Option.some.inj rv1)
      exact ⟨x1.symm, x2.symm, y1.symm, y2.symm⟩
    cases b with
    | false => rw [if_neg (by simp)]; exact no fun l e h q => by cases (bad l e h q).2.1
    | true =>
      rw [if_pos rfl]
      cases c with
      | false => rw [if_neg (by simp)]; exact no fun l e h q => by cases (bad l e h q).2.2.2
      | true =>
        rw [if_pos rfl, spec_IsFloat_f k w v (by omega) (by omega), bsome]
        by_cases f : Fl w v
        · rw [if_pos (by simpa using f)]
          refine ⟨_, rfl, .inl ⟨w, v, f, ?_, rfl⟩⟩
          apply eqS
          rw [h6, ← e6, ← e7, wb rfl, vb rfl f.2.2.1 f.2.2.2.1]
        · rw [if_neg (by simpa using f)]
          exact no fun l e h q => by
            obtain ⟨rfl, _, rfl, _⟩ := bad l e h q
            exact f h
  · have : (bt s 6 != 120) = true := by simp [c2]
    rw [this, if_pos rfl]
    refine no fun l e h q => ?_
    rw [q] at c2
    exact c2 (txtF_six l e h)
theorem impl_tritsOf_le (k : Nat) (x0 : ByteArray) (x4 : List Int) (x8 x9 : Int) : impl_tritsOf.l0 (k + 1) x0 x4 x8 x9 = if x9 < x8 then (if 0 ≤ x9 then (if x9 < (x0.size : Int) then (if (bt x0 x9) = 45 then (if x4.length < 17592186044416 then (impl_tritsOf.l0 k x0 (x4 ++ [(-1)]) x8 (wrap64 (x9 + 1))) else (none)) else (if (bt x0 x9) = 48 then (if x4.length < 17592186044416 then (impl_tritsOf.l0 k x0 (x4 ++ [0]) x8 (wrap64 (x9 + 1))) else (none)) else (if (bt x0 x9) = 43 then (if x4.length < 17592186044416 then (impl_tritsOf.l0 k x0 (x4 ++ [1]) x8 (wrap64 (x9 + 1))) else (none)) else (some (([] : List Int), false))))) else (none)) else (none)) else (some (x4, true)) := by rw [impl_tritsOf.l0]
theorem impl_tritsOf_l0 (s : ByteArray) (hs : s.size ≤ 30) : ∀ (d k i : Nat) (acc : List Int), i + d = s.size → acc.length = i → d < k →
    ∃ w b, impl_tritsOf.l0 k s acc (s.size : Int) (i : Int) = some (w, b) ∧ w.length ≤ s.size ∧ (b = true → w.length = s.size ∧ ∀ c ∈ s.data.toList.drop i, goodC c)
  | 0, k, i, acc, hd, ha, hk => by
    obtain ⟨k, rfl⟩ : ∃ m, k = m + 1 := ⟨k - 1, by omega⟩
    rw [impl_tritsOf_le, if_neg (by omega)]
    refine ⟨acc, true, rfl, by omega, fun _ => ⟨by omega, fun c hc => ?_⟩⟩
    rw [List.drop_of_length_le (by rw [lenS]; omega)] at hc
    cases hc
  | d + 1, k, i, acc, hd, ha, hk => by
    obtain ⟨k, rfl⟩ : ∃ m, k = m + 1 := ⟨k - 1, by omega⟩
    have hb := bt_list s i (by omega)
    have hdr : s.data.toList.drop i = s.data.toList[i]'(by rw [lenS]; omega) :: s.data.toList.drop (i + 1) := List.drop_eq_getElem_cons (by rw [lenS]; omega)
    generalize s.data.toList[i]'(by rw [lenS]; omega) = c at hb hdr
    have go : ∀ t, goodC c → ∃ w b, impl_tritsOf.l0 k s (acc ++ [t]) (s.size : Int) (wrap64 ((i : Int) + 1)) = some (w, b) ∧ w.length ≤ s.size ∧ (b = true → w.length = s.size ∧ ∀ c ∈ s.data.toList.drop i, goodC c) := fun t g => by
      rw [w64 _ (by omega) (by omega)]
      obtain ⟨w, b, e, wl, h⟩ := impl_tritsOf_l0 s hs d k (i + 1) (acc ++ [t]) (by omega) (by simp; omega) (by omega)
      refine ⟨w, b, e, wl, fun hb => ⟨(h hb).1, fun x hx => ?_⟩⟩
      rw [hdr] at hx
      rcases List.mem_cons.mp hx with rfl | hx
      · exact g
      · exact (h hb).2 x hx
    rw [impl_tritsOf_le, if_pos (by omega), if_pos (by omega), if_pos (by omega), hb]
    by_cases c1 : (c.toNat : Int) = 45
    · rw [if_pos c1, if_pos (by omega)]; exact go _ (.inr (.inr ((byte_eq (n := 45) (by omega)).mp c1)))
    rw [if_neg c1]
    by_cases c2 : (c.toNat : Int) = 48
    · rw [if_pos c2, if_pos (by omega)]; exact go _ (.inr (.inl ((byte_eq (n := 48) (by omega)).mp c2)))
    rw [if_neg c2]
    by_cases c3 : (c.toNat : Int) = 43
    · rw [if_pos c3, if_pos (by omega)]; exact go _ (.inl ((byte_eq (n := 43) (by omega)).mp c3))
    rw [if_neg c3]
    exact ⟨[], false, rfl, by simp, fun h => by cases h⟩
theorem slices_Reverse_le (k : Nat) (x0 : List Int) (x2 x3 : Int) : slices_Reverse_int_int.l0 (k + 1) x0 x2 x3 = if x2 < x3 then (if 0 ≤ x3 then (if x3 < (x0.length : Int) then (if 0 ≤ x2 then (if x2 < (x0.length : Int) then (slices_Reverse_int_int.l0 k ((x0.set (x2 : Int).toNat (rd x0 x3)).set (x3 : Int).toNat (rd x0 x2)) (wrap64 (x2 + 1)) (wrap64 (x3 - 1))) else (none)) else (none)) else (none)) else (none)) else (some x0) := by rw [slices_Reverse_int_int.l0]
theorem slices_Reverse_l0 : ∀ (d k : Nat) (x : List Int) (i j : Int), x.length ≤ 1000 → 0 ≤ i → i ≤ 1000 → -1 ≤ j → j < x.length → j - i < d → d < k → ∃ r, slices_Reverse_int_int.l0 k x i j = some r ∧ r.length = x.length
  | 0, k, x, i, j, hx, h0, h4, h1, h2, hd, hk => by
    obtain ⟨k, rfl⟩ : ∃ m, k = m + 1 := ⟨k - 1, by omega⟩
    rw [slices_Reverse_le, if_neg (by omega)]
    exact ⟨x, rfl, rfl⟩
  | d + 1, k, x, i, j, hx, h0, h4, h1, h2, hd, hk => by
    obtain ⟨k, rfl⟩ : ∃ m, k = m + 1 := ⟨k - 1, by omega⟩
    rw [slices_Reverse_le]
    by_cases c : i < j
    · rw [if_pos c, if_pos (by omega), if_pos (by omega), if_pos (by omega), if_pos (by omega), w64 _ (by omega) (by omega), w64 _ (by omega) (by omega)]
      obtain ⟨r, e, h⟩ := slices_Reverse_l0 d k ((x.set i.toNat (rd x j)).set j.toNat (rd x i)) (i + 1) (j - 1) (by simp; omega) (by omega) (by omega) (by omega) (by simp; omega) (by omega) (by omega)
      exact ⟨r, e, by simpa using h⟩
    · rw [if_neg c]; exact ⟨x, rfl, rfl⟩
theorem impl_ParseWord_f (s : ByteArray) (k : Nat) (hk : 3000000 ≤ k) : ∃ w b, impl_ParseWord.f k s = some (w, b) ∧ w.length ≤ 30 ∧ (b = true → w.length = s.size ∧ ∀ c ∈ s.data.toList, goodC c) := by
  unfold impl_ParseWord.f
  by_cases c1 : (s.size : Int) > 30
  · rw [if_pos c1]; exact ⟨[], false, rfl, by simp, fun h => by cases h⟩
  rw [if_neg c1]
  unfold impl_tritsOf.f
  obtain ⟨w, b, e, wl, h⟩ := impl_tritsOf_l0 s (by omega) s.size k 0 [] (by omega) (by simp) (by omega)
  rw [show ((0 : Nat) : Int) = 0 from rfl] at e
  rw [e, bsome]
  cases b with
  | false => rw [if_neg (by simp)]; exact ⟨[], false, rfl, by simp, fun h => by cases h⟩
  | true =>
    obtain ⟨h1, h2⟩ := h rfl
    rw [if_pos rfl]
    by_cases c2 : (w.length : Int) < 1
    · rw [if_pos c2]; exact ⟨[], false, rfl, by simp, fun h => by cases h⟩
    rw [if_neg c2]
    unfold impl_backwards.f slices_Clone_int_int.f slices_Reverse_int_int.f
    dsimp only
    rw [if_pos (by omega), bsome, w64 _ (by omega) (by omega)]
    obtain ⟨r, e2, hr⟩ := slices_Reverse_l0 w.length k w 0 ((w.length : Int) - 1) (by omega) (by omega) (by omega) (by omega) (by omega) (by omega) (by omega)
    rw [e2, bsome, bsome]
    exact ⟨r, true, rfl, by omega, fun _ => ⟨by omega, by simpa using h2⟩⟩
theorem words_readI : (tritsL 6).all (fun l => decide (impl_ParseWord.f 40 ⟨(txtW l).toArray⟩ = some (l, true))) = true := by decide +kernel
theorem impl_ParseWord_txt (k : Nat) (l : List Int) (hk : 40 ≤ k) (hl : l.length = 6) (ht : Trits l) : impl_ParseWord.f k ⟨(txtW l).toArray⟩ = some (l, true) :=
  up_of (fun k => impl_ParseWord.f k ⟨(txtW l).toArray⟩) (impl_ParseWord.mono _) _ 40 (of_decide_eq_true (List.all_eq_true.mp words_readI l (mem_tritsL 6 l hl ht))) k hk
theorem exps_atoi : expsL.all (fun e => decide (Lib.atoiAll (numS e) = .ok e)) = true := by decide +kernel
theorem numberV_num (e : Int) (h0 : -20 ≤ e) (h1 : e ≤ 20) : numberV ⟨(numS e).toArray⟩ = (e, true) := by
  unfold numberV
  have h := of_decide_eq_true (List.all_eq_true.mp exps_atoi e (mem_expsL e h0 h1))
  have e2 : (⟨(numS e).toArray⟩ : ByteArray).data.toList = numS e := by simp
  rw [e2, h]
  show (e, decide ((⟨(Lib.itoa e).toArray⟩ : ByteArray) = ⟨(numS e).toArray⟩)) = _
  rw [itoa_numS e (by omega) (by omega)]
  simp
theorem numberV_true {s : ByteArray} (h : (numberV s).2 = true) (h0 : -20 ≤ (numberV s).1) (h1 : (numberV s).1 ≤ 20) : s.data.toList = numS (numberV s).1 := by
  rcases numberV_cases s with ⟨v, _, e⟩ | ⟨n, _, e⟩
  · rw [e] at h h0 h1 ⊢
    have h2 : (⟨(Lib.itoa v).toArray⟩ : ByteArray) = s := of_decide_eq_true h
    rw [← h2, itoa_numS v (by simp only at h0; omega) (by simp only at h1; omega)]
  · rw [e] at h; cases h
theorem index_x : ∀ l : List UInt8, (Lib.index l [120] = -1 ∧ (120 : UInt8) ∉ l) ∨ ∃ a b, l = a ++ 120 :: b ∧ (120 : UInt8) ∉ a ∧ Lib.index l [120] = a.length
  | [] => .inl ⟨rfl, by simp⟩
  | x :: l => by
    by_cases c : x = 120
    · subst c; exact .inr ⟨[], l, rfl, by simp, by simp [Lib.index]⟩
    · have c2 : ¬ (120 : UInt8) = x := fun q => c q.symm
      rcases index_x l with ⟨h, n⟩ | ⟨a, b, e, n, h⟩
      · refine .inl ⟨?_, by simp [c2, n]⟩
        unfold Lib.index
        rw [if_neg (by simp [c2]), h]
        try rfl
      · refine .inr ⟨x :: a, b, by rw [e]; rfl, by simp [c2, n], ?_⟩
        unfold Lib.index
        rw [if_neg (by simp [c2]), h, if_neg (by simp <;> omega)]
        simp
theorem cut_cases (l : List UInt8) : (Lib.cut l [120] = (l, [], false) ∧ (120 : UInt8) ∉ l) ∨ ∃ a b, l = a ++ 120 :: b ∧ (120 : UInt8) ∉ a ∧ Lib.cut l [120] = (a, b, true) := by
  rcases index_x l with ⟨h, n⟩ | ⟨a, b, e, n, h⟩
  · exact .inl ⟨by unfold Lib.cut; rw [h, if_neg (by omega)], n⟩
  · refine .inr ⟨a, b, e, n, ?_⟩
    unfold Lib.cut
    rw [h, if_pos (by omega), e]
    simp
theorem impl_ParseFloat_f (s : ByteArray) (k : Nat) (hk : 3000000 ≤ k) (hs : s.size ≤ 1048576) : ∃ r, impl_ParseFloat.f k s = some r ∧ PFl s r := by
  unfold impl_ParseFloat.f strings_Cut.f
  have no : (∀ l e, Fl l e → s ≠ txtF l e) → ∃ r, (some (([] : List Int), (0 : Int), false)) = some r ∧ PFl s r := fun h => ⟨_, rfl, .inr ⟨h, rfl⟩⟩
  have e120 : (⟨#[120]⟩ : ByteArray).data.toList = [120] := rfl
  have hl : s.data.toList.length = s.size := lenS s
  have inX : ∀ l e, s = txtF l e → s.data.toList = txtW l ++ 120 :: numS e := fun l e q => by rw [q]; simp [txtF]
  have noX : ∀ l, Trits l → (120 : UInt8) ∉ txtW l := fun l ht hm => by
    unfold txtW at hm
    obtain ⟨t, _, q⟩ := List.mem_map.mp hm
    unfold chT at q
    split at q
    · exact absurd q (by decide)
    · split at q <;> exact absurd q (by decide)
  have one : ∀ {a b c d : List UInt8}, a ++ 120 :: b = c ++ 120 :: d → (120 : UInt8) ∉ a → (120 : UInt8) ∉ c → a = c ∧ b = d := by
    intro a
    induction a with
    | nil =>
      intro b c d h n1 n2
      cases c with
      | nil => exact ⟨rfl, (List.cons.inj h).2⟩
      | cons x c => exact absurd (by rw [(List.cons.inj h).1]; simp) n2
    | cons y a ih =>
      intro b c d h n1 n2
      cases c with
      | nil => exact absurd (by rw [(List.cons.inj h).1]; simp) n1
      | cons x c =>
        obtain ⟨h1, h2⟩ := List.cons.inj h
        obtain ⟨h3, h4⟩ := ih h2 (fun q => n1 (List.mem_cons_of_mem _ q)) (fun q => n2 (List.mem_cons_of_mem _ q))
        exact ⟨by rw [h1, h3], h4⟩
  rw [if_pos hs, bsome, e120]
  rcases cut_cases s.data.toList with ⟨hc, n⟩ | ⟨a, b, hab, n, hc⟩
  · rw [hc]
    obtain ⟨w, c, rw1, wl, wb⟩ := impl_ParseWord_f ⟨s.data.toList.toArray⟩ k hk
    rw [rw1, bsome]
    unfold impl_number.f
    rw [if_pos (by rw [sizeW]; simp), bsome, if_neg (by simp)]
    exact no fun l e h q => n (by rw [inX l e q]; simp)
  · rw [hc]
    have hbl : b.length ≤ 1048576 := by have := congrArg List.length hab; simp at this; omega
    obtain ⟨w, c, rw1, wl, wb⟩ := impl_ParseWord_f ⟨a.toArray⟩ k hk
    rw [rw1, bsome]
    unfold impl_number.f
    rw [if_pos (by rw [sizeW]; exact hbl), bsome, if_pos rfl]
    have bad : ∀ l e, Fl l e → s = txtF l e → w = l ∧ c = true ∧ numberV ⟨b.toArray⟩ = (e, true) := fun l e h q => by
      obtain ⟨q1, q2⟩ := one (hab.symm.trans (inX l e q)) n (noX l h.2.1)
      rw [q1, impl_ParseWord_txt k l (by omega) h.1 h.2.1] at rw1
      obtain ⟨x1, x2⟩ := Prod.mk.inj (Option.some.inj rw1)
      exact ⟨x1.symm, x2.symm, by rw [q2]; exact numberV_num e h.2.2.1 h.2.2.2.1⟩
    cases c with
    | false => rw [if_neg (by simp)]; exact no fun l e h q => by cases (bad l e h q).2.1
    | true =>
      rw [if_pos rfl]
      by_cases c2 : (numberV ⟨b.toArray⟩).2 = true
      · rw [if_pos c2, impl_IsFloat_f k w _ (by omega) (by omega), bsome]
        by_cases f : Fl w (numberV ⟨b.toArray⟩).1
        · rw [if_pos (by simpa using f)]
          refine ⟨_, rfl, .inl ⟨w, _, f, ?_, rfl⟩⟩
          obtain ⟨g1, g2⟩ := wb rfl
          rw [sizeW] at g1
          obtain ⟨w2, hw2, hw3, hw4⟩ := good_txt a (by rw [← g1]; exact f.1) (by simpa using g2)
          have ht : Trits w2 := by
            have : (tritsL 6).all (fun l => decide (Trits l)) = true := by decide +kernel
            exact of_decide_eq_true (List.all_eq_true.mp this w2 hw2)
          rw [hw4, impl_ParseWord_txt k w2 (by omega) hw3 ht] at rw1
          have hw : w2 = w := (Prod.mk.inj (Option.some.inj rw1)).1
          have hv := numberV_true c2 f.2.2.1 f.2.2.2.1
          apply eqS
          rw [hab, hw4, hw, ← hv]
        · rw [if_neg (by simpa using f)]
          exact no fun l e h q => by
            obtain ⟨rfl, _, q3⟩ := bad l e h q
            rw [q3] at f
            exact f h
      · rw [if_neg c2]
        exact no fun l e h q => by
          have := (bad l e h q).2.2
          rw [this] at c2
          exact c2 rfl
end FnExactParseFloatParts
open FnExactParseFloatParts
attribute [local congr] bind_left

theorem FnExactParseFloat : laws_FnExactParseFloat.Pure := by
  intro s _
  obtain ⟨K, hK⟩ : ∃ K, 100000000 ≤ K := ⟨_, Nat.le_refl _⟩
  refine ⟨K + 4, ?_⟩
  unfold laws_FnExactParseFloat.f
  by_cases h : (s.size : Int) > 1048576
  · rw [if_pos h]
  rw [if_neg h]
  obtain ⟨r, e1, p1⟩ := spec_ParseFloat_f s (K + 4) (by omega)
  have f : ∀ k, 3000000 ≤ k → impl_ParseFloat.f k s = some r := fun k hk => by
    obtain ⟨r2, e2, p2⟩ := impl_ParseFloat_f s k hk (by omega)
    rw [e2, PFl_one p2 p1]
  have hm : r.1.length ≤ 2000000 := by
    rcases p1 with ⟨l, e, g, _, rfl⟩ | ⟨_, rfl⟩
    · show l.length ≤ _; rw [g.1]; omega
    · simp
  rw [e1, bsome]
  simp (disch := omega) only [↓if_pos, ↓if_neg, ↓reduceIte, bsome, f, laws_eqFloating_same, bne_self_eq_false, Bool.false_eq_true, laws_markFloating_f, laws_heldFloating_marks, laws_FnExactParseFloat.j0, laws_FnExactParseFloat.j1]

end Go.Proofs.YtffhddibgfaopaaDoor.Pure
