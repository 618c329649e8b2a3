/- For all floating numbers the program's SingleOf gives what the reference gives, and changes no argument; no condition. -/
import Derived.Test.YtffhddibgfaopaaPZ0
import Derived.Test.YtffhddibgfaopaaGlue
namespace Go.Proofs.Ytffhddibgfaopaa.Pure
open Go.RowKit Go.Proofs.Ytffhddibgfaopaa.Tern Go.Proofs.Ytffhddibgfaopaa.P Go.Proofs.YtffhddibgfaopaaW.PrintWords Go.Proofs.YtffhddibgfaopaaW.PrintLast
set_option linter.unusedVariables false
set_option linter.unusedSimpArgs false

namespace FnExactSingleOfParts
theorem impl_IsTrit_f (a : Int) : impl_IsTrit.f a = some (decide (Trit a)) := by
  unfold impl_IsTrit.f Trit
  split
  · rename_i h
    simp [show -1 ≤ a from h]
  · rename_i h
    have : ¬ (-1 ≤ a) := h
    simp [this]
theorem spec_IsTrit_f (a : Int) : spec_IsTrit.f a = some (decide (Trit a)) := by
  unfold spec_IsTrit.f spec_l1In.f Trit
  split
  · rename_i h
    simp [show -1 ≤ a from h]
  · rename_i h
    have : ¬ (-1 ≤ a) := h
    simp [this]
theorem spec_l1In_f (x a b : Int) : spec_l1In.f x a b = some (decide (a ≤ x ∧ x ≤ b)) := by
  unfold spec_l1In.f
  split
  · rename_i h
    simp [show a ≤ x from h]
  · rename_i h
    have : ¬ (a ≤ x) := h
    simp [this]
theorem impl_trits_l0 (l : List Int) (hl : l.length ≤ 2000000) : ∀ (d k i : Nat), i + d = l.length → d < k →
    impl_trits.l0 k l (l.length : Int) (i : Int) = some (decide (Trits (l.drop i))) := by
  intro d
  induction d with
  | zero =>
    intro k i h hk
    obtain ⟨k, rfl⟩ : ∃ m, k = m + 1 := ⟨k - 1, by omega⟩
    simp only [impl_trits.l0]
    rw [if_neg (by omega), List.drop_eq_nil_of_le (by omega)]
    simp [Trits.nil]
  | succ d ih =>
    intro k i h hk
    obtain ⟨k, rfl⟩ : ∃ m, k = m + 1 := ⟨k - 1, by omega⟩
    simp only [impl_trits.l0]
    rw [if_pos (by omega), if_pos (by omega), if_pos (by omega), impl_IsTrit_f, drop_rd l i (by omega)]
    simp only [bsome, Trits.cons]
    by_cases ht : Trit (rd l (i : Int))
    · rw [if_pos (by simpa using ht), w64 _ (by omega) (by omega)]
      have := ih k (i + 1) (by omega) (by omega)
      rw [show ((i + 1 : Nat) : Int) = (i : Int) + 1 from by omega] at this
      rw [this]; simp [ht]
    · rw [if_neg (by simpa using ht)]; simp [ht]
theorem impl_trits_f (k : Nat) (l : List Int) (hk : 2000001 ≤ k) (hl : l.length ≤ 2000000) : impl_trits.f k l = some (decide (Trits l)) := by
  unfold impl_trits.f
  have := impl_trits_l0 l hl l.length k 0 (by omega) (by omega)
  simpa using this
theorem spec_IsWord_l0 (l : List Int) (hl : l.length ≤ 2000000) : ∀ (d k i : Nat), i + d = l.length → d < k →
    spec_IsWord.l0 k l l (l.length : Int) (i : Int) = some (decide (1 ≤ l.length ∧ l.length ≤ 30 ∧ Trits (l.drop i))) := by
  intro d
  induction d with
  | zero =>
    intro k i h hk
    obtain ⟨k, rfl⟩ : ∃ m, k = m + 1 := ⟨k - 1, by omega⟩
    simp only [spec_IsWord.l0]
    rw [if_neg (by omega), List.drop_eq_nil_of_le (by omega), spec_l1In_f]
    have e : (1 ≤ (l.length : Int) ∧ (l.length : Int) ≤ 30) = (1 ≤ l.length ∧ l.length ≤ 30) := by apply propext; omega
    simp [Trits.nil, e]
  | succ d ih =>
    intro k i h hk
    obtain ⟨k, rfl⟩ : ∃ m, k = m + 1 := ⟨k - 1, by omega⟩
    simp only [spec_IsWord.l0]
    rw [if_pos (by omega), if_pos (by omega), if_pos (by omega), spec_IsTrit_f, drop_rd l i (by omega)]
    simp only [bsome, Trits.cons]
    by_cases ht : Trit (rd l (i : Int))
    · rw [if_pos (by simpa using ht), w64 _ (by omega) (by omega)]
      have := ih k (i + 1) (by omega) (by omega)
      rw [show ((i + 1 : Nat) : Int) = (i : Int) + 1 from by omega] at this
      rw [this]; simp [ht]
    · rw [if_neg (by simpa using ht)]; simp [ht]
theorem spec_IsWord_f (k : Nat) (l : List Int) (hk : 2000001 ≤ k) (hl : l.length ≤ 2000000) : spec_IsWord.f k l = some (decide (Word l)) := by
  unfold spec_IsWord.f Word
  exact spec_IsWord_l0 l hl l.length k 0 (by omega) (by omega)
theorem impl_value_l0 (l : List Int) (hl : l.length ≤ 30) (hb : Digs l) : ∀ (n k : Nat) (x : Int), n ≤ l.length → n < k → x = (n : Int) - 1 →
    impl_value.l0 k l (val (l.drop n)) x = some (val l) := by
  intro n
  induction n with
  | zero =>
    intro k x h hk hx
    obtain ⟨k, rfl⟩ : ∃ m, k = m + 1 := ⟨k - 1, by omega⟩
    simp only [impl_value.l0]
    rw [if_neg (by omega), List.drop_zero]
  | succ n ih =>
    intro k x h hk hx
    obtain ⟨k, rfl⟩ : ∃ m, k = m + 1 := ⟨k - 1, by omega⟩
    obtain rfl : x = (n : Int) := by omega
    have b1 := val_drop_bd l hl hb (n + 1)
    have b2 := hb _ (rd_mem l n (by omega))
    simp only [impl_value.l0]
    rw [if_pos (by omega), if_pos (by omega), if_pos (by omega), w64 (3 * _) (by omega) (by omega), w64 _ (by omega) (by omega), w64 _ (by omega) (by omega)]
    have e : val (l.drop n) = 3 * val (l.drop (n + 1)) + rd l (n : Int) := by rw [drop_rd l n (by omega)]; simp only [val]; omega
    rw [← e]
    exact ih k _ (by omega) (by omega) rfl
theorem impl_value_f (k : Nat) (l : List Int) (hk : 31 ≤ k) (hl : l.length ≤ 30) (hb : Digs l) : impl_value.f k l = some (val l) := by
  unfold impl_value.f
  have := impl_value_l0 l hl hb l.length k (wrap64 ((l.length : Int) - 1)) (Nat.le_refl _) (by omega) (w64 _ (by omega) (by omega))
  rw [List.drop_length] at this
  exact this
theorem spec_l2Value_l0 (l : List Int) (hl : l.length ≤ 30) (hb : Digs l) : ∀ (n k : Nat) (x : Int), n ≤ l.length → n < k → x = (n : Int) - 1 →
    spec_l2Value.l0 k l (val (l.drop n)) x = some (val l) := by
  intro n
  induction n with
  | zero =>
    intro k x h hk hx
    obtain ⟨k, rfl⟩ : ∃ m, k = m + 1 := ⟨k - 1, by omega⟩
    simp only [spec_l2Value.l0]
    rw [if_neg (by omega), List.drop_zero]
  | succ n ih =>
    intro k x h hk hx
    obtain ⟨k, rfl⟩ : ∃ m, k = m + 1 := ⟨k - 1, by omega⟩
    obtain rfl : x = (n : Int) := by omega
    have b1 := val_drop_bd l hl hb (n + 1)
    have b2 := hb _ (rd_mem l n (by omega))
    simp only [spec_l2Value.l0]
    rw [if_pos (by omega), if_pos (by omega), if_pos (by omega), w64 (3 * _) (by omega) (by omega), w64 _ (by omega) (by omega), w64 _ (by omega) (by omega)]
    have e : val (l.drop n) = 3 * val (l.drop (n + 1)) + rd l (n : Int) := by rw [drop_rd l n (by omega)]; simp only [val]; omega
    rw [← e]
    exact ih k _ (by omega) (by omega) rfl
theorem spec_l2Value_f (k : Nat) (l : List Int) (hk : 31 ≤ k) (hl : l.length ≤ 30) (hb : Digs l) : spec_l2Value.f k l = some (val l) := by
  unfold spec_l2Value.f
  have := spec_l2Value_l0 l hl hb l.length k (wrap64 ((l.length : Int) - 1)) (Nat.le_refl _) (by omega) (w64 _ (by omega) (by omega))
  rw [List.drop_length] at this
  exact this
theorem laws_toIntS_l0 (l : List Int) (hl : l.length ≤ 2000000) : ∀ (d k i : Nat), i + d = l.length → d < k →
    laws_toIntS.l0 k l (l.take i ++ List.replicate d 0) (i : Int) = some l := by
  intro d
  induction d with
  | zero =>
    intro k i h hk
    obtain ⟨k, rfl⟩ : ∃ m, k = m + 1 := ⟨k - 1, by omega⟩
    simp only [laws_toIntS.l0]
    rw [if_neg (by omega)]; simp [List.take_of_length_le (show l.length ≤ i by omega)]
  | succ d ih =>
    intro k i h hk
    obtain ⟨k, rfl⟩ : ∃ m, k = m + 1 := ⟨k - 1, by omega⟩
    have hlen : (l.take i).length = i := by rw [List.length_take]; omega
    simp only [laws_toIntS.l0]
    rw [if_pos (by omega), if_pos (by omega), if_pos (by rw [List.length_append, List.length_replicate, hlen]; omega), w64 _ (by omega) (by omega)]
    have e : (l.take i ++ List.replicate (d + 1) (0 : Int)).set (i : Int).toNat (rd l (i : Int)) = l.take (i + 1) ++ List.replicate d 0 := by
      have h1 := set_append_len (l.take i) 0 (rd l (i : Int)) (List.replicate d 0)
      rw [hlen] at h1
      rw [Int.toNat_natCast, List.replicate_succ, h1, take_rd l i (by omega), List.append_assoc]; rfl
    rw [e, show (i : Int) + 1 = ((i + 1 : Nat) : Int) from by omega]
    exact ih k (i + 1) (by omega) (by omega)
theorem laws_toIntS_f (k : Nat) (l : List Int) (hk : 2000001 ≤ k) (hl : l.length ≤ 2000000) : laws_toIntS.f k l = some l := by
  unfold laws_toIntS.f
  rw [if_pos (by omega), if_pos (by omega)]
  have := laws_toIntS_l0 l hl l.length k 0 (by omega) (by omega)
  simpa using this
theorem laws_eqIntS_l0 (a b : List Int) (hl : a.length ≤ 2000000) (hb : a.length = b.length) : ∀ (d k i : Nat), i + d = a.length → d < k →
    laws_eqIntS.l0 k a b (i : Int) = some (decide (a.drop i = b.drop i)) := by
  intro d
  induction d with
  | zero =>
    intro k i h hk
    obtain ⟨k, rfl⟩ : ∃ m, k = m + 1 := ⟨k - 1, by omega⟩
    simp only [laws_eqIntS.l0]
    rw [if_neg (by omega), List.drop_eq_nil_of_le (by omega), List.drop_eq_nil_of_le (by omega)]; simp
  | succ d ih =>
    intro k i h hk
    obtain ⟨k, rfl⟩ : ∃ m, k = m + 1 := ⟨k - 1, by omega⟩
    simp only [laws_eqIntS.l0]
    rw [if_pos (by omega), if_pos (by omega), if_pos (by omega), drop_rd a i (by omega), drop_rd b i (by omega), w64 _ (by omega) (by omega)]
    by_cases c : rd a (i : Int) = rd b (i : Int)
    · rw [if_pos c, show (i : Int) + 1 = ((i + 1 : Nat) : Int) from by omega, ih k (i + 1) (by omega) (by omega)]
      simp [c]
    · rw [if_neg c]; simp [c]
theorem laws_eqIntS_f (k : Nat) (a b : List Int) (hk : 2000001 ≤ k) (hl : a.length ≤ 2000000) : laws_eqIntS.f k a b = some (decide (a = b)) := by
  unfold laws_eqIntS.f
  by_cases h : a.length = b.length
  · rw [if_pos (by omega)]
    have := laws_eqIntS_l0 a b hl h a.length k 0 (by omega) (by omega)
    simpa using this
  · rw [if_neg (by omega)]
    have : a ≠ b := fun e => h (by rw [e])
    simp [this]
theorem impl_highest_l0 (l : List Int) (hl : l.length ≤ 1000) (ht : Trits l) : ∀ (i k : Nat) (x : Int), i ≤ l.length → i < k → x = (i : Int) - 1 → impl_highest.l0 k l x = some (sg (val (l.take i))) := by
  intro i
  induction i with
  | zero =>
    intro k x h hk hx
    obtain ⟨k, rfl⟩ : ∃ m, k = m + 1 := ⟨k - 1, by omega⟩
    rw [impl_highest.l0, if_neg (by omega)]
    rfl
  | succ i ih =>
    intro k x h hk hx
    obtain ⟨k, rfl⟩ : ∃ m, k = m + 1 := ⟨k - 1, by omega⟩
    obtain rfl : x = (i : Int) := by omega
    have hy := ht _ (rd_mem l i (by omega))
    have lt : (l.take i).length = i := by rw [List.length_take]; omega
    have bd := val_bd (l.take i) (ht.take i)
    have p := pow3_lim i
    have va : val (l.take (i + 1)) = val (l.take i) + pow3 i * rd l (i : Int) := by
      rw [take_rd l i (by omega), val_append, lt]
      simp [val]
    rw [lt] at bd
    have ln := lim_nonneg i
    rw [impl_highest.l0, if_pos (by omega), if_pos (by omega), if_pos (by omega), va]
    generalize rd l (i : Int) = y at *
    unfold Trit at hy
    have : y = -1 ∨ y = 0 ∨ y = 1 := by omega
    rcases this with rfl | rfl | rfl
    · rw [if_neg (by omega)]
      unfold sg
      rw [if_pos (by omega)]
    · rw [if_pos rfl, Int.mul_zero, Int.add_zero]
      exact ih k _ (by omega) (by omega) (by rw [w64 _ (by omega) (by omega)])
    · rw [if_neg (by omega)]
      unfold sg
      rw [if_neg (by omega), if_pos (by omega)]
theorem laws_szIntS_f (l : List Int) (a : Int) (hl : l.length ≤ maxLen) (h0 : 0 ≤ a) (h1 : a ≤ 1048576) : laws_szIntS.f l a = some (if a < (l.length : Int) then -1 else a - l.length) := by
  unfold maxLen at hl
  unfold laws_szIntS.f
  rw [w64 _ (by omega) (by omega)]
  by_cases h : a < (l.length : Int)
  · rw [if_pos (by omega), if_pos h]
  · rw [if_neg (by omega), if_neg h]
theorem laws_szFloating_f (l : List Int) (e a : Int) (hl : l.length ≤ maxLen) (h0 : 0 ≤ a) (h1 : a ≤ 1048576) : laws_szFloating.f l e a = some (if a < (l.length : Int) then -1 else a - l.length) := by
  unfold laws_szFloating.f
  rw [laws_szIntS_f l a hl h0 h1, bsome]
  by_cases h : a < (l.length : Int)
  · rw [if_pos h, if_pos (by omega)]
  · rw [if_neg h, if_neg (by omega)]
theorem laws_toFloating_f (k : Nat) (l : List Int) (e : Int) (hk : 2000001 ≤ k) (hl : l.length ≤ 2000000) : laws_toFloating.f k l e = some (l, e) := by
  unfold laws_toFloating.f
  rw [laws_toIntS_f k l hk hl, bsome]
theorem laws_eqFloating_f (k : Nat) (a : List Int) (ea : Int) (b : List Int) (eb : Int) (hk : 2000001 ≤ k) (hl : a.length ≤ 2000000) : laws_eqFloating.f k a ea b eb = some (decide (a = b ∧ ea = eb)) := by
  unfold laws_eqFloating.f
  rw [laws_eqIntS_f k a b hk hl, bsome]
  by_cases h : a = b <;> by_cases h2 : ea = eb <;> simp [h, h2]
theorem laws_eqFloating_same (k : Nat) (a : List Int) (ea : Int) (hk : 2000001 ≤ k) (hl : a.length ≤ 2000000) : laws_eqFloating.f k a ea a ea = some true := by
  rw [laws_eqFloating_f k a ea a ea hk hl]; simp
theorem impl_highest_f (k : Nat) (l : List Int) (hk : 2000 ≤ k) (hl : l.length ≤ 1000) (ht : Trits l) : impl_highest.f k l = some (sg (val l)) := by
  unfold impl_highest.f
  have := impl_highest_l0 l hl ht l.length k ((l.length : Int) - 1) (by omega) (by omega) rfl
  rw [List.take_length] at this
  rw [w64 _ (by omega) (by omega), this]
theorem sg_zero (v : Int) : sg v = 0 ↔ v = 0 := by
  unfold sg
  split
  · omega
  · split <;> omega
theorem impl_IsFloat_f (k : Nat) (l : List Int) (e : Int) (hk : 2000001 ≤ k) (hl : l.length ≤ 2000000) : impl_IsFloat.f k l e = some (decide (Fl l e)) := by
  unfold impl_IsFloat.f
  by_cases h6 : (l.length : Int) = 6
  · rw [if_pos h6, impl_trits_f k l hk hl, bsome]
    by_cases ht : Trits l
    · rw [if_pos (by simpa using ht)]
      by_cases h1 : e < -20
      · rw [if_pos h1, decide_eq_false]; intro h; have := h.2.2.1; omega
      · rw [if_neg h1]
        by_cases h2 : e > 20
        · rw [if_pos h2, decide_eq_false]; intro h; have := h.2.2.2.1; omega
        · rw [if_neg h2, if_pos (by omega)]
          have er : rd l 5 = l.getD 5 0 := rfl
          by_cases h3 : rd l 5 = 0
          · rw [if_pos h3, impl_highest_f k l (by omega) (by omega) ht, bsome]
            by_cases h4 : val l = 0
            · rw [if_pos ((sg_zero _).2 h4)]
              congr 1
              by_cases h5 : e = 0
              · subst h5; rw [decide_eq_true]; rfl; exact ⟨by omega, ht, by decide, by decide, .inr ⟨h4, rfl⟩⟩
              · rw [decide_eq_false]; simp [h5]
                intro h; rcases h.2.2.2.2 with h | h
                · exact h (er ▸ h3)
                · exact h5 h.2
            · rw [if_neg (fun h => h4 ((sg_zero _).1 h)), decide_eq_false]
              intro h; rcases h.2.2.2.2 with h | h
              · exact h (er ▸ h3)
              · exact h4 h.1
          · rw [if_neg h3, decide_eq_true]
            exact ⟨by omega, ht, by omega, by omega, .inl (fun h => h3 (er.trans h))⟩
    · rw [if_neg (by simpa using ht), decide_eq_false]; intro h; exact ht h.2.1
  · rw [if_neg h6, decide_eq_false]; intro h; have := h.1; omega
theorem spec_IsFloat_f (k : Nat) (l : List Int) (e : Int) (hk : 2000001 ≤ k) (hl : l.length ≤ 2000000) : spec_IsFloat.f k l e = some (decide (Fl l e)) := by
  unfold spec_IsFloat.f
  rw [spec_IsWord_f k l hk hl, bsome]
  by_cases hw : Word l
  · rw [if_pos (by simpa using hw)]
    by_cases h6 : (l.length : Int) = 6
    · rw [if_pos h6, spec_l1In_f, bsome]
      by_cases hr : -20 ≤ e ∧ e ≤ 20
      · rw [if_pos (by simpa using hr), if_pos (by omega)]
        have er : rd l 5 = l.getD 5 0 := rfl
        by_cases h3 : rd l 5 = 0
        · rw [if_pos h3]
          by_cases h5 : e = 0
          · rw [if_pos h5, spec_l2Value_f k l (by omega) hw.2.1 hw.2.2.digs, bsome]
            by_cases h4 : val l = 0
            · rw [decide_eq_true (p := Fl l e) ⟨by omega, hw.2.2, by omega, by omega, .inr ⟨h4, h5⟩⟩, h4]; rfl
            · rw [decide_eq_false]
              · simp [h4]
              · intro h; rcases h.2.2.2.2 with h | h
                · exact h (er ▸ h3)
                · exact h4 h.1
          · rw [if_neg h5, decide_eq_false]; intro h; rcases h.2.2.2.2 with h | h
            · exact h (er ▸ h3)
            · exact h5 h.2
        · rw [if_neg h3, decide_eq_true]; exact ⟨by omega, hw.2.2, by omega, by omega, .inl (fun h => h3 (er.trans h))⟩
      · rw [if_neg (by simpa using hr), decide_eq_false]; intro h; exact hr ⟨h.2.2.1, h.2.2.2.1⟩
    · rw [if_neg h6, decide_eq_false]; intro h; have := h.1; omega
  · rw [if_neg (by simpa using hw), decide_eq_false]; intro h; exact hw ⟨by have := h.1; omega, by have := h.1; omega, h.2.1⟩
theorem fl_val {l : List Int} {e : Int} (h : Fl l e) : -364 ≤ val l ∧ val l ≤ 364 := by
  have := val_bd l h.2.1
  rw [h.1, show lim 6 = 364 by decide] at this
  exact this
end FnExactSingleOfParts
open FnExactSingleOfParts
attribute [local congr] bind_left

theorem FnExactSingleOf : laws_FnExactSingleOf.Pure := by
  intro l e hl
  obtain ⟨K, hK⟩ : ∃ K, 100000000 ≤ K := ⟨_, Nat.le_refl _⟩
  have hsz := laws_szFloating_f l e 1048576 hl (by omega) (by omega)
  by_cases h : (1048576 : Int) < (l.length : Int)
  · exact ⟨K, -1, by rw [hsz, if_pos h], .inl (by omega)⟩
  · refine ⟨K, 1048576 - l.length, by rw [hsz, if_neg h], .inr ⟨by omega, laws_toFloating_f K l e (by omega) (by omega), laws_eqFloating_same K l e (by omega) (by omega), ?_⟩⟩
    by_cases hf : Fl l e
    · right
      have r := hf.2.2
      have l6 := hf.1
      have z := hf.zero_or
      refine ⟨val l, ?_, ?_, ?_, ?_, r.1, r.2.1, ?_⟩
      · rw [impl_IsFloat_f K l e (by omega) (by omega)]; simp [hf]
      · rw [spec_IsFloat_f K l e (by omega) (by omega)]; simp [hf]
      · exact spec_l2Value_f K l (by omega) (by omega) hf.2.1.digs
      · exact impl_value_f K l (by omega) (by omega) hf.2.1.digs
      · have v := fl_val hf
        rcases z with z | z
        · exact .inl z.1
        · have g := len3_gt (n := val l) (k := 5) (by omega)
          rw [show lim 5 = 121 by decide] at g
          omega
    · left
      exact ⟨by rw [impl_IsFloat_f K l e (by omega) (by omega)]; simp [hf], by rw [spec_IsFloat_f K l e (by omega) (by omega)]; simp [hf]⟩

end Go.Proofs.Ytffhddibgfaopaa.Pure
