/- For every text of draws: quotient and remainder give the dividend back, the remainder is the nearest one, and products are divided without a rest; no condition. -/
import Derived.Test.YtfhbdknmjbgghaaPx23
import Derived.Test.YtfhbdknmjbgghaaGlue
namespace Go.Proofs.Ytfhbdknmjbgghaa.Pure
open Go.RowKit Go.Proofs.Ytfhbdknmjbgghaa.Tern Go.Proofs.Ytfhbdknmjbgghaa.P Go.Proofs.YtfhbdknmjbgghaaW.PrintWords Go.Proofs.YtfhbdknmjbgghaaW.PrintLast
set_option linter.unusedVariables false

namespace FnDividedParts
theorem impl_IsTrit_f (a : Int) : impl_IsTrit.f a = some (decide (Trit a)) := by
  unfold impl_IsTrit.f Trit
  split
  · rename_i h
    simp [show -1 ≤ a from h]
  · rename_i h
    have : ¬ (-1 ≤ a) := h
    simp [this]
theorem spec_IsTrit_f (a : Int) : spec_IsTrit.f a = some (decide (Trit a)) := by
  unfold spec_IsTrit.f spec_l1In.f Trit
  split
  · rename_i h
    simp [show -1 ≤ a from h]
  · rename_i h
    have : ¬ (-1 ≤ a) := h
    simp [this]
theorem spec_l1In_f (x a b : Int) : spec_l1In.f x a b = some (decide (a ≤ x ∧ x ≤ b)) := by
  unfold spec_l1In.f
  split
  · rename_i h
    simp [show a ≤ x from h]
  · rename_i h
    have : ¬ (a ≤ x) := h
    simp [this]
theorem impl_trits_l0 (l : List Int) (hl : l.length ≤ 2000000) : ∀ (d k i : Nat), i + d = l.length → d < k →
    impl_trits.l0 k l (l.length : Int) (i : Int) = some (decide (Trits (l.drop i))) := by
  intro d
  induction d with
  | zero =>
    intro k i h hk
    obtain ⟨k, rfl⟩ : ∃ m, k = m + 1 := ⟨k - 1, by omega⟩
    simp only [impl_trits.l0]
    rw [if_neg (by omega), List.drop_eq_nil_of_le (by omega)]
    simp [Trits.nil]
  | succ d ih =>
    intro k i h hk
    obtain ⟨k, rfl⟩ : ∃ m, k = m + 1 := ⟨k - 1, by omega⟩
    simp only [impl_trits.l0]
    rw [if_pos (by omega), if_pos (by omega), if_pos (by omega), impl_IsTrit_f, drop_rd l i (by omega)]
    simp only [bsome, Trits.cons]
    by_cases ht : Trit (rd l (i : Int))
    · rw [if_pos (by simpa using ht), w64 _ (by omega) (by omega)]
      have := ih k (i + 1) (by omega) (by omega)
      rw [show ((i + 1 : Nat) : Int) = (i : Int) + 1 from by omega] at this
      rw [this]; simp [ht]
    · rw [if_neg (by simpa using ht)]; simp [ht]
theorem impl_trits_f (k : Nat) (l : List Int) (hk : 2000001 ≤ k) (hl : l.length ≤ 2000000) : impl_trits.f k l = some (decide (Trits l)) := by
  unfold impl_trits.f
  have := impl_trits_l0 l hl l.length k 0 (by omega) (by omega)
  simpa using this
theorem impl_IsWord_f (k : Nat) (l : List Int) (hk : 2000001 ≤ k) (hl : l.length ≤ 2000000) : impl_IsWord.f k l = some (decide (Word l)) := by
  unfold impl_IsWord.f Word
  rw [impl_trits_f k l hk hl]
  by_cases h1 : 1 ≤ l.length
  · rw [if_pos (by omega)]
    by_cases h2 : l.length ≤ 30
    · rw [if_pos (by omega)]; simp [h1, h2]
    · rw [if_neg (by omega)]; simp [h2]
  · rw [if_neg (by omega)]; simp [h1]
theorem spec_IsWord_l0 (l : List Int) (hl : l.length ≤ 2000000) : ∀ (d k i : Nat), i + d = l.length → d < k →
    spec_IsWord.l0 k l l (l.length : Int) (i : Int) = some (decide (1 ≤ l.length ∧ l.length ≤ 30 ∧ Trits (l.drop i))) := by
  intro d
  induction d with
  | zero =>
    intro k i h hk
    obtain ⟨k, rfl⟩ : ∃ m, k = m + 1 := ⟨k - 1, by omega⟩
    simp only [spec_IsWord.l0]
    rw [if_neg (by omega), List.drop_eq_nil_of_le (by omega), spec_l1In_f]
    have e : (1 ≤ (l.length : Int) ∧ (l.length : Int) ≤ 30) = (1 ≤ l.length ∧ l.length ≤ 30) := by apply propext; omega
    simp [Trits.nil, e]
  | succ d ih =>
    intro k i h hk
    obtain ⟨k, rfl⟩ : ∃ m, k = m + 1 := ⟨k - 1, by omega⟩
    simp only [spec_IsWord.l0]
    rw [if_pos (by omega), if_pos (by omega), if_pos (by omega), spec_IsTrit_f, drop_rd l i (by omega)]
    simp only [bsome, Trits.cons]
    by_cases ht : Trit (rd l (i : Int))
    · rw [if_pos (by simpa using ht), w64 _ (by omega) (by omega)]
      have := ih k (i + 1) (by omega) (by omega)
      rw [show ((i + 1 : Nat) : Int) = (i : Int) + 1 from by omega] at this
      rw [this]; simp [ht]
    · rw [if_neg (by simpa using ht)]; simp [ht]
theorem spec_IsWord_f (k : Nat) (l : List Int) (hk : 2000001 ≤ k) (hl : l.length ≤ 2000000) : spec_IsWord.f k l = some (decide (Word l)) := by
  unfold spec_IsWord.f Word
  exact spec_IsWord_l0 l hl l.length k 0 (by omega) (by omega)
theorem impl_value_l0 (l : List Int) (hl : l.length ≤ 30) (hb : Digs l) : ∀ (n k : Nat) (x : Int), n ≤ l.length → n < k → x = (n : Int) - 1 →
    impl_value.l0 k l (val (l.drop n)) x = some (val l) := by
  intro n
  induction n with
  | zero =>
    intro k x h hk hx
    obtain ⟨k, rfl⟩ : ∃ m, k = m + 1 := ⟨k - 1, by omega⟩
    simp only [impl_value.l0]
    rw [if_neg (by omega), List.drop_zero]
  | succ n ih =>
    intro k x h hk hx
    obtain ⟨k, rfl⟩ : ∃ m, k = m + 1 := ⟨k - 1, by omega⟩
    obtain rfl : x = (n : Int) := by omega
    have b1 := val_drop_bd l hl hb (n + 1)
    have b2 := hb _ (rd_mem l n (by omega))
    simp only [impl_value.l0]
    rw [if_pos (by omega), if_pos (by omega), if_pos (by omega), w64 (3 * _) (by omega) (by omega), w64 _ (by omega) (by omega), w64 _ (by omega) (by omega)]
    have e : val (l.drop n) = 3 * val (l.drop (n + 1)) + rd l (n : Int) := by rw [drop_rd l n (by omega)]; simp only [val]; omega
    rw [← e]
    exact ih k _ (by omega) (by omega) rfl
theorem impl_value_f (k : Nat) (l : List Int) (hk : 31 ≤ k) (hl : l.length ≤ 30) (hb : Digs l) : impl_value.f k l = some (val l) := by
  unfold impl_value.f
  have := impl_value_l0 l hl hb l.length k (wrap64 ((l.length : Int) - 1)) (Nat.le_refl _) (by omega) (w64 _ (by omega) (by omega))
  rw [List.drop_length] at this
  exact this
theorem spec_l2Value_l0 (l : List Int) (hl : l.length ≤ 30) (hb : Digs l) : ∀ (n k : Nat) (x : Int), n ≤ l.length → n < k → x = (n : Int) - 1 →
    spec_l2Value.l0 k l (val (l.drop n)) x = some (val l) := by
  intro n
  induction n with
  | zero =>
    intro k x h hk hx
    obtain ⟨k, rfl⟩ : ∃ m, k = m + 1 := ⟨k - 1, by omega⟩
    simp only [spec_l2Value.l0]
    rw [if_neg (by omega), List.drop_zero]
  | succ n ih =>
    intro k x h hk hx
    obtain ⟨k, rfl⟩ : ∃ m, k = m + 1 := ⟨k - 1, by omega⟩
    obtain rfl : x = (n : Int) := by omega
    have b1 := val_drop_bd l hl hb (n + 1)
    have b2 := hb _ (rd_mem l n (by omega))
    simp only [spec_l2Value.l0]
    rw [if_pos (by omega), if_pos (by omega), if_pos (by omega), w64 (3 * _) (by omega) (by omega), w64 _ (by omega) (by omega), w64 _ (by omega) (by omega)]
    have e : val (l.drop n) = 3 * val (l.drop (n + 1)) + rd l (n : Int) := by rw [drop_rd l n (by omega)]; simp only [val]; omega
    rw [← e]
    exact ih k _ (by omega) (by omega) rfl
theorem spec_l2Value_f (k : Nat) (l : List Int) (hk : 31 ≤ k) (hl : l.length ≤ 30) (hb : Digs l) : spec_l2Value.f k l = some (val l) := by
  unfold spec_l2Value.f
  have := spec_l2Value_l0 l hl hb l.length k (wrap64 ((l.length : Int) - 1)) (Nat.le_refl _) (by omega) (w64 _ (by omega) (by omega))
  rw [List.drop_length] at this
  exact this
theorem impl_ValueOf_f (k : Nat) (l : List Int) (hk : 2000001 ≤ k) (hl : l.length ≤ 2000000) : impl_ValueOf.f k l = some (if Word l then val l else 0) := by
  unfold impl_ValueOf.f
  rw [impl_IsWord_f k l hk hl]
  by_cases h : Word l
  · simp [h, impl_value_f k l (by omega) h.2.1 h.2.2.digs]
  · simp [h]
theorem spec_ValueOf_f (k : Nat) (l : List Int) (hk : 2000001 ≤ k) (hl : l.length ≤ 2000000) : spec_ValueOf.f k l = some (if Word l then val l else 0) := by
  unfold spec_ValueOf.f
  rw [spec_IsWord_f k l hk hl]
  by_cases h : Word l
  · simp [h, spec_l2Value_f k l (by omega) h.2.1 h.2.2.digs]
  · simp [h]
theorem impl_power_l0 (a : Int) (ha : a ≤ 30) : ∀ (d k i : Nat), (i : Int) + d = a → d < k → impl_power.l0 k (pow3 i) a (i : Int) = some (pow3 a.toNat) := by
  intro d
  induction d with
  | zero =>
    intro k i h hk
    obtain ⟨k, rfl⟩ : ∃ m, k = m + 1 := ⟨k - 1, by omega⟩
    simp only [impl_power.l0]
    rw [if_neg (by omega), show a.toNat = i from by omega]
  | succ d ih =>
    intro k i h hk
    obtain ⟨k, rfl⟩ : ∃ m, k = m + 1 := ⟨k - 1, by omega⟩
    have h1 := pow3_pos i
    have h2 : pow3 i ≤ pow3 30 := pow3_mono (by omega)
    rw [pow3_30] at h2
    simp only [impl_power.l0]
    rw [if_pos (by omega), w64 _ (by omega) (by omega), w64 _ (by omega) (by omega)]
    have := ih k (i + 1) (by omega) (by omega)
    simp only [pow3] at this
    rw [show pow3 i * 3 = 3 * pow3 i from by omega, show (i : Int) + 1 = ((i + 1 : Nat) : Int) from by omega]
    exact this
theorem impl_power_f (k : Nat) (a : Int) (hk : 31 ≤ k) (ha : a ≤ 30) : impl_power.f k a = some (pow3 a.toNat) := by
  unfold impl_power.f
  by_cases h : 0 ≤ a
  · exact impl_power_l0 a ha a.toNat k 0 (by omega) (by omega)
  · obtain ⟨k, rfl⟩ : ∃ m, k = m + 1 := ⟨k - 1, by omega⟩
    simp only [impl_power.l0]
    rw [if_neg (by omega), show a.toNat = 0 from by omega]; rfl
theorem impl_LimitOf_f (k : Nat) (a : Int) (hk : 31 ≤ k) : impl_LimitOf.f k a = some (if 1 ≤ a ∧ a ≤ 30 then lim a.toNat else 0) := by
  unfold impl_LimitOf.f
  by_cases h1 : a < 1
  · rw [if_pos h1, if_neg (by omega)]
  · rw [if_neg h1]
    by_cases h2 : a > 30
    · rw [if_pos h2, if_neg (by omega)]
    · rw [if_neg h2, impl_power_f k a hk (by omega), if_pos (by omega)]
      have h3 := pow3_lim a.toNat
      have h4 := lim_nonneg a.toNat
      have h5 : lim a.toNat ≤ lim 30 := lim_mono (by omega)
      rw [lim30] at h5
      simp only [bsome]
      rw [w64 (pow3 _ - 1) (by omega) (by omega), h3, show 2 * lim a.toNat + 1 - 1 = 2 * lim a.toNat from by omega, Int.mul_tdiv_cancel_left _ (by omega), w64 _ (by omega) (by omega)]
theorem impl_fits_f (k : Nat) (n a : Int) (hk : 31 ≤ k) (h1 : 1 ≤ a) (h2 : a ≤ 30) : impl_fits.f k n a = some (decide (-lim a.toNat ≤ n ∧ n ≤ lim a.toNat)) := by
  unfold impl_fits.f
  have h4 := lim_nonneg a.toNat
  have h5 : lim a.toNat ≤ lim 30 := lim_mono (by omega)
  rw [lim30] at h5
  rw [impl_LimitOf_f k a hk, if_pos ⟨h1, h2⟩]
  simp only [bsome]
  rw [w64 _ (by omega) (by omega)]
  by_cases h : n ≥ -lim a.toNat
  · rw [if_pos h]; simp [show -lim a.toNat ≤ n from h]
  · rw [if_neg h]
    have : ¬ -lim a.toNat ≤ n := h
    simp [this]
theorem impl_carried_tmod (n : Int) : ∃ c, impl_carried.f (Int.tmod n 3) = some (low3 n, c) := by
  unfold impl_carried.f low3
  rcases Int.le_total 0 n with h | h
  · rw [tmod3_nonneg n h]
    split
    · rw [w64 _ (by omega) (by omega)]; exact ⟨1, by congr 2; omega⟩
    · rw [if_neg (by omega)]; exact ⟨0, by congr 2; omega⟩
  · have e2 := tmod3_nonpos n h
    rw [e2]
    split
    · omega
    · split
      · rw [w64 _ (by omega) (by omega)]; exact ⟨-1, by congr 2; omega⟩
      · exact ⟨0, by congr 2; omega⟩
theorem tdiv_low3 (n : Int) : Int.tdiv (n - low3 n) 3 = rest3 n := by
  have := low3_rest3 n
  rw [show n - low3 n = 3 * rest3 n from by omega, Int.mul_tdiv_cancel_left _ (by omega)]
theorem rest3_bd (n B : Int) (hB : 0 ≤ B) (h0 : -B ≤ n) (h1 : n ≤ B) : -B ≤ rest3 n ∧ rest3 n ≤ B := by unfold rest3; omega
theorem impl_WordOf_l0 (a : Int) (ha : a ≤ 30) : ∀ (d k i : Nat) (n : Int) (acc : List Int), (i : Int) + d = a → d < k → acc.length = i → -1000000000000000000 ≤ n → n ≤ 1000000000000000000 →
    impl_WordOf.l0 k n acc a (i : Int) = some (acc ++ word n d, true) := by
  intro d
  induction d with
  | zero =>
    intro k i n acc h hk hl h0 h1
    obtain ⟨k, rfl⟩ : ∃ m, k = m + 1 := ⟨k - 1, by omega⟩
    simp only [impl_WordOf.l0]
    rw [if_neg (by omega)]; simp [word]
  | succ d ih =>
    intro k i n acc h hk hl h0 h1
    obtain ⟨k, rfl⟩ : ∃ m, k = m + 1 := ⟨k - 1, by omega⟩
    obtain ⟨c, hc⟩ := impl_carried_tmod n
    have ht := low3_trit n
    unfold Trit at ht
    have hu := rest3_bd n 1000000000000000000 (by omega) (by omega) h1
    simp only [impl_WordOf.l0]
    rw [if_pos (by omega), hc]
    simp only [bsome]
    rw [if_pos (by omega), w64 (n - low3 n) (by omega) (by omega), tdiv_low3, w64 (rest3 n) (by omega) (by omega), w64 _ (by omega) (by omega), show (i : Int) + 1 = ((i + 1 : Nat) : Int) from by omega,
      ih k (i + 1) (rest3 n) (acc ++ [low3 n]) (by omega) (by omega) (by simp [hl]) hu.1 hu.2]
    simp [word]
theorem impl_WordOf_f (k : Nat) (n a : Int) (hk : 40 ≤ k) (ha : -9223372036854775808 ≤ a) : impl_WordOf.f k n a = some (wordOf n a) := by
  obtain ⟨k, rfl⟩ : ∃ m, k = m + 1 := ⟨k - 1, by omega⟩
  unfold impl_WordOf.f wordOf
  by_cases h1 : a < 1
  · rw [if_pos h1, if_neg (by omega)]; simp only [impl_WordOf.j0]; rfl
  · rw [if_neg h1]
    by_cases h2 : a > 30
    · rw [if_pos h2, if_neg (by omega)]; simp only [impl_WordOf.j0]; rfl
    · rw [if_neg h2, impl_fits_f _ n a (by omega) (by omega) (by omega)]
      simp only [bsome, impl_WordOf.j0]
      have h5 : lim a.toNat ≤ lim 30 := lim_mono (by omega)
      rw [lim30] at h5
      by_cases h : -lim a.toNat ≤ n ∧ n ≤ lim a.toNat
      · rw [if_neg (by simpa using h), if_pos ⟨by omega, by omega, h⟩]
        have := impl_WordOf_l0 a (by omega) a.toNat k 0 n [] (by omega) (by omega) rfl (by omega) (by omega)
        simpa using this
      · rw [if_pos (by rw [decide_eq_false h]; rfl), if_neg (fun hh => h hh.2.2)]
theorem impl_two_f (k : Nat) (a b : List Int) (hk : 2000001 ≤ k) (ha : a.length ≤ 2000000) (hb : b.length ≤ 2000000) : impl_two.f k a b = some (decide (Word a ∧ Word b ∧ a.length + b.length ≤ 30)) := by
  unfold impl_two.f
  rw [impl_IsWord_f k a hk ha, impl_IsWord_f k b hk hb]
  simp only [bsome]
  by_cases h1 : Word a
  · by_cases h2 : Word b
    · simp only [h1, h2, decide_true, if_true, true_and]
      rw [w64 _ (by omega) (by omega)]
      congr 1
      by_cases h3 : a.length + b.length ≤ 30
      · simp only [h3, decide_true]; exact decide_eq_true (by omega)
      · simp only [h3, decide_false]; exact decide_eq_false (by omega)
    · simp [h1, h2]
  · simp [h1]
def mulOf (a b : List Int) : List Int × Bool := if Word a ∧ Word b ∧ a.length + b.length ≤ 30 then (word (val a * val b) (a.length + b.length), true) else ([], false)
theorem mul_bds {a b : List Int} (h : Word a ∧ Word b ∧ a.length + b.length ≤ 30) : (-lim (a.length + b.length) ≤ val a * val b ∧ val a * val b ≤ lim (a.length + b.length)) ∧ -102945566047324 ≤ val a * val b ∧ val a * val b ≤ 102945566047324 := by
  have h1 := mul_lim (val_bd a h.1.2.2) (val_bd b h.2.1.2.2)
  have h2 : lim (a.length + b.length) ≤ lim 30 := lim_mono h.2.2
  rw [lim30] at h2
  omega
theorem impl_MultiplyWords_f (k : Nat) (a b : List Int) (hk : 2000001 ≤ k) (ha : a.length ≤ 2000000) (hb : b.length ≤ 2000000) : impl_MultiplyWords.f k a b = some (mulOf a b) := by
  unfold impl_MultiplyWords.f mulOf
  rw [impl_two_f k a b hk ha hb]
  simp only [bsome]
  by_cases h : Word a ∧ Word b ∧ a.length + b.length ≤ 30
  · have hm := mul_bds h
    rw [if_pos (by simpa using h), if_pos h, impl_value_f k a (by omega) h.1.2.1 h.1.2.2.digs, impl_value_f k b (by omega) h.2.1.2.1 h.2.1.2.2.digs]
    simp only [bsome]
    rw [w64 (val a * val b) (by omega) (by omega), w64 _ (by omega) (by omega), impl_WordOf_f k _ _ (by omega) (by omega)]
    have e : ((a.length : Int) + (b.length : Int)).toNat = a.length + b.length := by omega
    have h1 := h.1.1
    rw [wordOf_yes (by omega) (by omega) (by rw [e]; exact hm.1.1) (by rw [e]; exact hm.1.2), e]
    rfl
  · rw [if_neg (by simpa using h), if_neg h]
theorem mx_abs (d : Int) (h : -9223372036854775807 ≤ d) (h1 : d ≤ 9223372036854775807) : mx d (wrap64 (-d)) = abs3 d := by
  rw [w64 _ (by omega) (by omega)]
  unfold mx abs3
  split
  · rw [if_pos (by omega)]
  · split <;> omega
theorem impl_size_f (d : Int) (h : -9223372036854775807 ≤ d) (h1 : d ≤ 9223372036854775807) : impl_size.f d = some (abs3 d) := by
  unfold impl_size.f
  rw [mx_abs d h h1]
theorem laws_abs_f (d : Int) (h : -9223372036854775807 ≤ d) (h1 : d ≤ 9223372036854775807) : laws_abs.f d = some (abs3 d) := by
  unfold laws_abs.f
  rw [mx_abs d h h1]
theorem abs3_le {d B : Int} (h : -B ≤ d) (h1 : d ≤ B) : abs3 d ≤ B := by unfold abs3; split <;> omega
theorem impl_divided_f (n d : Int) (hn0 : -1000000000000000000 ≤ n) (hn1 : n ≤ 1000000000000000000) (hd : d ≠ 0) (hd0 : -1000000000000000000 ≤ d) (hd1 : d ≤ 1000000000000000000) : impl_divided.f n d = some (bquo n d, brem n d) := by
  have hp := abs3_pos hd
  have hb := abs3_le (B := 1000000000000000000) hd0 hd1
  have e1 := tmod_tdiv n (abs3 d)
  have e2 := tmod_range (n := n) hp
  have fin : ∀ r : Int, -abs3 d < 2 * r → 2 * r ≤ abs3 d → (∃ s, n - r = abs3 d * s) → (wrap64 (Int.tdiv (wrap64 (n - r)) d), r) = (bquo n d, brem n d) := by
    intro r h1 h2 ⟨s, hs⟩
    have hs' : ∃ q, n - r = q * d := by
      unfold abs3 at hs
      split at hs
      · exact ⟨-s, by rw [hs, Int.neg_mul, Int.neg_mul, Int.mul_comm]⟩
      · exact ⟨s, by rw [hs, Int.mul_comm]⟩
    obtain ⟨q, hq⟩ := hs'
    obtain ⟨b1, b2⟩ := brem_of (n := n) (q := q) (r := r) hd (by omega) h1 h2
    have b3 := bquo_bd (n := n) hd
    have b4 := abs3_le (B := 1000000000000000000) hn0 hn1
    rw [w64 (n - r) (by omega) (by omega), hq, Int.mul_tdiv_cancel _ hd, b1, b2, w64 q (by omega) (by omega)]
  unfold impl_divided.f
  simp only [impl_size_f d (by omega) (by omega), bsome]
  rw [if_neg (by omega)]
  generalize Int.tmod n (abs3 d) = r at *
  generalize Int.tdiv n (abs3 d) = s at *
  rw [w64 (2 * r) (by omega) (by omega)]
  by_cases c1 : 2 * r > abs3 d
  · rw [if_pos c1, if_neg hd, w64 (r - abs3 d) (by omega) (by omega)]
    congr 1
    exact fin (r - abs3 d) (by omega) (by omega) ⟨s + 1, by rw [Int.mul_add]; omega⟩
  · rw [if_neg c1, w64 (-abs3 d) (by omega) (by omega)]
    by_cases c2 : 2 * r ≤ -abs3 d
    · rw [if_pos c2, if_neg hd, w64 (r + abs3 d) (by omega) (by omega)]
      congr 1
      exact fin (r + abs3 d) (by omega) (by omega) ⟨s - 1, by rw [Int.mul_sub]; omega⟩
    · rw [if_neg c2, if_neg hd]
      congr 1
      exact fin r (by omega) (by omega) ⟨s, by omega⟩
def divOf (a d : List Int) : List Int × List Int × Bool := if Word a ∧ Word d ∧ val d ≠ 0 then (word (bquo (val a) (val d)) a.length, word (brem (val a) (val d)) d.length, true) else ([], [], false)
theorem div_bds {a d : List Int} (h : Word a ∧ Word d ∧ val d ≠ 0) : (-lim a.length ≤ bquo (val a) (val d) ∧ bquo (val a) (val d) ≤ lim a.length) ∧ (-lim d.length ≤ brem (val a) (val d) ∧ brem (val a) (val d) ≤ lim d.length) ∧
    lim a.length ≤ 102945566047324 ∧ lim d.length ≤ 102945566047324 ∧ 0 ≤ lim a.length ∧ 0 ≤ lim d.length ∧ -lim a.length ≤ val a ∧ val a ≤ lim a.length ∧ -lim d.length ≤ val d ∧ val d ≤ lim d.length := by
  have h1 := val_bd a h.1.2.2
  have h2 := val_bd d h.2.1.2.2
  have h3 := bquo_bd (n := val a) h.2.2
  have h4 := abs3_le h1.1 h1.2
  have h5 := brem_bd (n := val a) h.2.2
  have h6 := abs3_le h2.1 h2.2
  have h7 : lim a.length ≤ lim 30 := lim_mono h.1.2.1
  have h8 : lim d.length ≤ lim 30 := lim_mono h.2.1.2.1
  have h9 := lim_nonneg a.length
  have h10 := lim_nonneg d.length
  rw [lim30] at h7 h8
  omega
theorem divOf_len (a d : List Int) : (divOf a d).1.length ≤ 30 ∧ (divOf a d).2.1.length ≤ 30 := by
  unfold divOf
  split
  · rename_i h
    simp only [length_word]; exact ⟨h.1.2.1, h.2.1.2.1⟩
  · simp
theorem impl_DivideWords_f (k : Nat) (a d : List Int) (hk : 2000002 ≤ k) (ha : a.length ≤ 2000000) (hd : d.length ≤ 2000000) : impl_DivideWords.f k a d = some (divOf a d) := by
  obtain ⟨k, rfl⟩ : ∃ m, k = m + 1 := ⟨k - 1, by omega⟩
  unfold impl_DivideWords.f divOf
  rw [impl_IsWord_f _ a (by omega) ha, impl_IsWord_f _ d (by omega) hd, bsome]
  by_cases h1 : Word a
  · rw [if_pos (by simpa using h1), bsome]
    by_cases h2 : Word d
    · rw [if_pos (by simpa using h2), impl_value_f _ d (by omega) h2.2.1 h2.2.2.digs, bsome]
      simp only [impl_DivideWords.j0]
      by_cases h3 : val d = 0
      · rw [if_pos (by simpa using h3), if_neg (fun h => h.2.2 h3)]
      · have hb := div_bds ⟨h1, h2, h3⟩
        rw [if_neg (by simpa using h3), if_pos ⟨h1, h2, h3⟩, impl_value_f _ a (by omega) h1.2.1 h1.2.2.digs, impl_value_f _ d (by omega) h2.2.1 h2.2.2.digs, bsome, bsome, impl_divided_f _ _ (by omega) (by omega) h3 (by omega) (by omega), bsome,
          impl_WordOf_f _ _ _ (by omega) (by omega), impl_WordOf_f _ _ _ (by omega) (by omega), bsome, bsome]
        have hl1 := h1.1
        have hl2 := h2.1
        have hl3 := h1.2.1
        have hl4 := h2.2.1
        rw [wordOf_yes (by omega) (by omega) (by rw [Int.toNat_natCast]; exact hb.1.1) (by rw [Int.toNat_natCast]; exact hb.1.2), wordOf_yes (by omega) (by omega) (by rw [Int.toNat_natCast]; exact hb.2.1.1) (by rw [Int.toNat_natCast]; exact hb.2.1.2),
          if_pos rfl, if_pos rfl, Int.toNat_natCast, Int.toNat_natCast]
    · rw [if_neg (by simpa using h2), if_neg (fun h => h2 h.2.1)]; simp only [impl_DivideWords.j0]; rfl
  · rw [if_neg (by simpa using h1), if_neg (fun h => h1 h.1)]; simp only [impl_DivideWords.j0]; rfl
theorem bits_and255 (x : Int) : 0 ≤ Go.bits .and .i64 x 255 ∧ Go.bits .and .i64 x 255 ≤ 255 := by
  have h : (BitVec.ofInt 64 x &&& BitVec.ofInt 64 255).toNat ≤ 255 := by
    rw [BitVec.toNat_and]
    exact Nat.le_trans Nat.and_le_right (by decide)
  have e : Go.bits .and .i64 x 255 = IntKind.i64.wrap ((BitVec.ofInt 64 x &&& BitVec.ofInt 64 255).toNat : Int) := rfl
  rw [e, IntKind.wrap_i64]
  omega
theorem spec_l01Byte_f (b : List Int) (i h : Int) (hb : b.length ≤ 2000000) (hi : 0 ≤ i) : ∃ r i' h', spec_l01Byte.f b i h = some (r, i', h') ∧ (0 ≤ r ∧ r ≤ 255) ∧ 0 ≤ i' := by
  unfold spec_l01Byte.f
  by_cases c : i < (b.length : Int)
  · rw [if_pos c, if_pos hi, w64 (i + 1) (by omega) (by omega)]
    exact ⟨_, _, _, rfl, bits_and255 _, by omega⟩
  · rw [if_neg c]
    exact ⟨_, _, _, rfl, bits_and255 _, hi⟩
theorem spec_l01Below_f (b : List Int) (i h n : Int) (hb : b.length ≤ 2000000) (hi : 0 ≤ i) (h1 : 1 ≤ n) (h2 : n ≤ 256) : ∃ r i' h', spec_l01Below.f b i h n = some (r, i', h') ∧ (0 ≤ r ∧ r < n) ∧ 0 ≤ i' := by
  obtain ⟨r, i', h', e, hr, hi'⟩ := spec_l01Byte_f b i h hb hi
  unfold spec_l01Below.f
  rw [if_neg (by omega), if_pos h2, e, bsome, if_neg (by omega)]
  refine ⟨_, _, _, rfl, ?_, hi'⟩
  show 0 ≤ Int.tmod r n ∧ Int.tmod r n < n
  exact (tmod_range (n := r) (by omega)).1 hr.1
theorem spec_l01New_f (k : Nat) (l : List Int) (hk : 2000002 ≤ k) (hl : l.length ≤ 2000000) : ∃ h, spec_l01New.f k l = some (l, 0, h) := by
  have key : ∀ (d k i : Nat) (h : Int), i + d = l.length → d < k → ∃ h', spec_l01New.l0 k l h (i : Int) = some (l, 0, h') := by
    intro d
    induction d with
    | zero =>
      intro k i h e hk
      obtain ⟨k, rfl⟩ : ∃ m, k = m + 1 := ⟨k - 1, by omega⟩
      rw [spec_l01New.l0, if_neg (by omega)]
      exact ⟨_, rfl⟩
    | succ d ih =>
      intro k i h e hk
      obtain ⟨k, rfl⟩ : ∃ m, k = m + 1 := ⟨k - 1, by omega⟩
      rw [spec_l01New.l0, if_pos (by omega)]
      by_cases c : (i : Int) < 4000
      · rw [if_pos c, if_pos (by omega), w64 ((i : Int) + 1) (by omega) (by omega), show (i : Int) + 1 = ((i + 1 : Nat) : Int) from by omega]
        exact ih k (i + 1) _ (by omega) (by omega)
      · rw [if_neg c]
        exact ⟨_, rfl⟩
  unfold spec_l01New.f
  exact key l.length k 0 _ (by omega) (by omega)
theorem spec_l2Draw_l1 (b : List Int) (i h : Int) : ∀ (d k j : Nat) (w : List Int), j + d = w.length → d < k → w.length ≤ 30 → Trits w → ∃ w', spec_l2Draw.l1 k w (w.length : Int) (j : Int) b i h = some (w', i, h) ∧ w'.length = w.length ∧ Trits w' := by
  intro d
  induction d with
  | zero =>
    intro k j w e hk hw ht
    obtain ⟨k, rfl⟩ : ∃ m, k = m + 1 := ⟨k - 1, by omega⟩
    rw [spec_l2Draw.l1, if_neg (by omega)]
    exact ⟨w, rfl, rfl, ht⟩
  | succ d ih =>
    intro k j w e hk hw ht
    obtain ⟨k, rfl⟩ : ∃ m, k = m + 1 := ⟨k - 1, by omega⟩
    rw [spec_l2Draw.l1, if_pos (by omega), if_pos (by omega), if_pos (by omega), w64 _ (by omega) (by omega), show (j : Int) + 1 = ((j + 1 : Nat) : Int) from by omega]
    obtain ⟨w', e', l', t'⟩ := ih k (j + 1) (w.set (j : Int).toNat 1) (by rw [List.length_set]; omega) (by omega) (by rw [List.length_set]; omega) (by
      intro a ha
      rcases List.mem_or_eq_of_mem_set ha with h1 | h1
      · exact ht a h1
      · rw [h1]; unfold Trit; omega)
    rw [List.length_set] at e' l'
    exact ⟨w', e', l', t'⟩
theorem spec_l2Draw_l2 (b : List Int) (i h : Int) : ∀ (d k j : Nat) (w : List Int), j + d = w.length → d < k → w.length ≤ 30 → Trits w → ∃ w', spec_l2Draw.l2 k w (w.length : Int) (j : Int) b i h = some (w', i, h) ∧ w'.length = w.length ∧ Trits w' := by
  intro d
  induction d with
  | zero =>
    intro k j w e hk hw ht
    obtain ⟨k, rfl⟩ : ∃ m, k = m + 1 := ⟨k - 1, by omega⟩
    rw [spec_l2Draw.l2, if_neg (by omega)]
    exact ⟨w, rfl, rfl, ht⟩
  | succ d ih =>
    intro k j w e hk hw ht
    obtain ⟨k, rfl⟩ : ∃ m, k = m + 1 := ⟨k - 1, by omega⟩
    rw [spec_l2Draw.l2, if_pos (by omega), if_pos (by omega), if_pos (by omega), w64 _ (by omega) (by omega), show (j : Int) + 1 = ((j + 1 : Nat) : Int) from by omega]
    obtain ⟨w', e', l', t'⟩ := ih k (j + 1) (w.set (j : Int).toNat (-1)) (by rw [List.length_set]; omega) (by omega) (by rw [List.length_set]; omega) (by
      intro a ha
      rcases List.mem_or_eq_of_mem_set ha with h1 | h1
      · exact ht a h1
      · rw [h1]; unfold Trit; omega)
    rw [List.length_set] at e' l'
    exact ⟨w', e', l', t'⟩
theorem spec_l2Draw_l3 (b : List Int) (i h : Int) : ∀ (d k j : Nat) (w : List Int), j + d = w.length → d < k → w.length ≤ 30 → Trits w → ∃ w', spec_l2Draw.l3 k w (w.length : Int) (j : Int) b i h = some (w', i, h) ∧ w'.length = w.length ∧ Trits w' := by
  intro d
  induction d with
  | zero =>
    intro k j w e hk hw ht
    obtain ⟨k, rfl⟩ : ∃ m, k = m + 1 := ⟨k - 1, by omega⟩
    rw [spec_l2Draw.l3, if_neg (by omega)]
    exact ⟨w, rfl, rfl, ht⟩
  | succ d ih =>
    intro k j w e hk hw ht
    obtain ⟨k, rfl⟩ : ∃ m, k = m + 1 := ⟨k - 1, by omega⟩
    rw [spec_l2Draw.l3, if_pos (by omega), if_pos (by omega), if_pos (by omega), w64 _ (by omega) (by omega), show (j : Int) + 1 = ((j + 1 : Nat) : Int) from by omega]
    obtain ⟨w', e', l', t'⟩ := ih k (j + 1) (w.set (j : Int).toNat 0) (by rw [List.length_set]; omega) (by omega) (by rw [List.length_set]; omega) (by
      intro a ha
      rcases List.mem_or_eq_of_mem_set ha with h1 | h1
      · exact ht a h1
      · rw [h1]; unfold Trit; omega)
    rw [List.length_set] at e' l'
    exact ⟨w', e', l', t'⟩
theorem spec_l2Draw_l0 (b : List Int) (hb : b.length ≤ 2000000) : ∀ (d k : Nat) (n i h : Int) (w : List Int), n = d → d + 100 < k → 0 ≤ i → w.length + d ≤ 30 → Trits w →
    ∃ w' i' h', spec_l2Draw.l0 k w n b i h = some (w', i', h') ∧ w'.length = w.length + d ∧ Trits w' ∧ 0 ≤ i' := by
  intro d
  induction d with
  | zero =>
    intro k n i h w hn hk hi hw ht
    obtain ⟨k, rfl⟩ : ∃ m, k = m + 1 := ⟨k - 1, by omega⟩
    obtain ⟨r, i', h', e, hr, hi'⟩ := spec_l01Below_f b i h 12 hb hi (by omega) (by omega)
    rw [spec_l2Draw.l0, if_neg (by omega), e, bsome]
    by_cases c0 : r = 0
    · rw [if_pos c0]
      obtain ⟨w', e', l', t'⟩ := spec_l2Draw_l1 b i' h' w.length k 0 w (by omega) (by omega) (by omega) ht
      exact ⟨w', _, _, e', by omega, t', hi'⟩
    rw [if_neg c0]
    by_cases c1 : r = 1
    · rw [if_pos c1]
      obtain ⟨w', e', l', t'⟩ := spec_l2Draw_l2 b i' h' w.length k 0 w (by omega) (by omega) (by omega) ht
      exact ⟨w', _, _, e', by omega, t', hi'⟩
    rw [if_neg c1]
    by_cases c2 : r = 2
    · rw [if_pos c2]
      obtain ⟨w', e', l', t'⟩ := spec_l2Draw_l3 b i' h' w.length k 0 w (by omega) (by omega) (by omega) ht
      exact ⟨w', _, _, e', by omega, t', hi'⟩
    rw [if_neg c2]
    exact ⟨w, _, _, rfl, by omega, ht, hi'⟩
  | succ d ih =>
    intro k n i h w hn hk hi hw ht
    obtain ⟨k, rfl⟩ : ∃ m, k = m + 1 := ⟨k - 1, by omega⟩
    obtain ⟨r, i', h', e, hr, hi'⟩ := spec_l01Below_f b i h 3 hb hi (by omega) (by omega)
    rw [spec_l2Draw.l0, if_pos (by omega), e, bsome, if_pos (by omega), w64 (r - 1) (by omega) (by omega), w64 (n - 1) (by omega) (by omega)]
    obtain ⟨w', i2, h2, e', l', t', hi2⟩ := ih k (n - 1) i' h' (w ++ [r - 1]) (by omega) (by omega) hi' (by simp; omega) (ht.append (by intro a ha; simp at ha; subst ha; unfold Trit; omega))
    exact ⟨w', i2, h2, e', by simp at l'; omega, t', hi2⟩
theorem spec_l2Draw_f (k : Nat) (b : List Int) (i h m : Int) (hk : 1000 ≤ k) (hb : b.length ≤ 2000000) (hi : 0 ≤ i) (h1 : 1 ≤ m) (h2 : m ≤ 30) : ∃ w i' h', spec_l2Draw.f k b i h m = some (w, i', h') ∧ Word w ∧ (w.length : Int) ≤ m ∧ 0 ≤ i' := by
  obtain ⟨r, i', h', e, hr, hi'⟩ := spec_l01Below_f b i h m hb hi h1 (by omega)
  unfold spec_l2Draw.f
  rw [e, bsome, w64 (1 + r) (by omega) (by omega)]
  obtain ⟨w', i2, h2', e', l', t', hi2⟩ := spec_l2Draw_l0 b hb (1 + r).toNat k (1 + r) i' h' [] (by omega) (by omega) hi' (by simp; omega) Trits.nil
  simp only [List.length_nil] at l'
  exact ⟨w', i2, h2', e', ⟨by omega, by omega, t'⟩, by omega, hi2⟩
theorem spec_MakeWord_f (k : Nat) (l : List Int) (m : Int) (hk : 2000002 ≤ k) (hl : l.length ≤ 2000000) (h1 : 1 ≤ m) (h2 : m ≤ 30) : ∃ w, spec_MakeWord.f k l m = some w ∧ Word w ∧ (w.length : Int) ≤ m := by
  obtain ⟨h, e⟩ := spec_l01New_f k l hk hl
  have em : mx 1 (mn m 30) = m := by unfold mx mn; split <;> split <;> omega
  unfold spec_MakeWord.f
  rw [e, bsome, em]
  obtain ⟨w, i', h', e', hw, hm, _⟩ := spec_l2Draw_f k l 0 h m (by omega) hl (by omega) h1 h2
  rw [e', bsome]
  exact ⟨w, rfl, hw, hm⟩
theorem laws_fresh_f (k : Nat) (l : List Int) (m : Int) (hk : 2000002 ≤ k) (hl : l.length ≤ 2000000) : ∃ c, laws_fresh.f k l m = some c ∧ c.length ≤ 1000 := by
  have key : ∀ (d k i : Nat) (acc : List Int), i + d = l.length → d < k → acc.length = i + 1 → i ≤ 600 → ∃ c, laws_fresh.l0 k l m acc (i : Int) = some c ∧ c.length ≤ 1000 := by
    intro d
    induction d with
    | zero =>
      intro k i acc e hk ha hi
      obtain ⟨k, rfl⟩ : ∃ m, k = m + 1 := ⟨k - 1, by omega⟩
      rw [laws_fresh.l0, if_neg (by omega)]
      exact ⟨acc, rfl, by omega⟩
    | succ d ih =>
      intro k i acc e hk ha hi
      obtain ⟨k, rfl⟩ : ∃ m, k = m + 1 := ⟨k - 1, by omega⟩
      rw [laws_fresh.l0, if_pos (by omega)]
      by_cases c : (i : Int) < 600
      · rw [if_pos c, if_pos (by omega), if_pos (by omega), w64 ((i : Int) + 1) (by omega) (by omega), show (i : Int) + 1 = ((i + 1 : Nat) : Int) from by omega]
        exact ih k (i + 1) _ (by omega) (by omega) (by simp [ha]) (by omega)
      · rw [if_neg c]
        exact ⟨acc, rfl, by omega⟩
  unfold laws_fresh.f
  exact key l.length k 0 _ (by omega) (by omega) (by simp) (by omega)
theorem word_word (n : Int) (k : Nat) (h1 : 1 ≤ k) (h2 : k ≤ 30) : Word (word n k) := ⟨by rw [length_word]; exact h1, by rw [length_word]; exact h2, trits_word n k⟩
end FnDividedParts
open FnDividedParts
attribute [local congr] bind_left

theorem FnDivided : laws_FnDivided.Pure := by
  intro l0 _ hl hwf
  obtain ⟨K, hK⟩ : ∃ K, 100000000 ≤ K := ⟨_, Nat.le_refl _⟩
  refine ⟨K, ?_⟩
  unfold laws_FnDivided.f
  by_cases h0 : (l0.length : Int) > 1048576
  · rw [if_pos h0]
  obtain ⟨a, ea, ha, ham⟩ := spec_MakeWord_f K l0 20 (by omega) (by omega) (by omega) (by omega)
  obtain ⟨c, ec, hc⟩ := laws_fresh_f K l0 3 (by omega) (by omega)
  obtain ⟨d, ed, hd, hdm⟩ := spec_MakeWord_f K c 8 (by omega) (by omega) (by omega) (by omega)
  have la := ha.1
  have ld := hd.1
  rw [if_neg h0, ea, bsome, ec, bsome, ed, bsome, spec_ValueOf_f _ d (by omega) (by omega), bsome, if_pos hd, impl_DivideWords_f _ a d (by omega) (by omega) (by omega), bsome]
  by_cases hz : val d = 0
  · have : divOf a d = ([], [], false) := by unfold divOf; rw [if_neg (fun h => h.2.2 hz)]
    rw [this, hz]; rfl
  have eq : divOf a d = (word (bquo (val a) (val d)) a.length, word (brem (val a) (val d)) d.length, true) := by unfold divOf; rw [if_pos ⟨ha, hd, hz⟩]
  have hb := div_bds ⟨ha, hd, hz⟩
  have fit : Word a ∧ Word d ∧ a.length + d.length ≤ 30 := ⟨ha, hd, by omega⟩
  have hp := mul_bds fit
  have em : mulOf a d = (word (val a * val d) (a.length + d.length), true) := by unfold mulOf; rw [if_pos fit]
  have pw := word_word (val a * val d) (a.length + d.length) (by omega) (by omega)
  have pv := val_word _ _ hp.1.1 hp.1.2
  have bb := bquo_brem (n := val a) hz
  have rb := brem_bd (n := val a) hz
  have ex := brem_of (n := val a * val d) (d := val d) (q := val a) (r := 0) hz (by omega) (by have := abs3_pos hz; omega) (by have := abs3_pos hz; omega)
  have lp : lim a.length ≤ lim (a.length + d.length) := lim_mono (by omega)
  have eq2 : divOf (word (val a * val d) (a.length + d.length)) d = (word (val a) (a.length + d.length), word 0 d.length, true) := by
    unfold divOf
    rw [if_pos ⟨pw, hd, hz⟩, pv, ex.1, ex.2, length_word]
  have ad := abs3_le (d := val d) (B := 102945566047324) (by omega) (by omega)
  have ad0 := abs3_nonneg (val d)
  rw [eq, if_neg (by simp [hz]), if_pos rfl, impl_ValueOf_f _ (word (brem _ _) _) (by omega) (by rw [length_word]; omega), bsome, if_pos (word_word _ _ ld (by omega)), val_word _ _ hb.2.1.1 hb.2.1.2, impl_MultiplyWords_f _ a d (by omega) (by omega) (by omega), bsome, em,
    impl_DivideWords_f _ _ d (by omega) (by rw [length_word]; omega) (by omega), bsome, eq2, if_pos rfl, if_pos rfl, if_pos (by rw [length_word]), if_pos (by rw [length_word]), impl_ValueOf_f _ a (by omega) (by omega), bsome, if_pos ha,
    impl_ValueOf_f _ (word (bquo _ _) _) (by omega) (by rw [length_word]; omega), bsome, if_pos (word_word _ _ la (by omega)), val_word _ _ hb.1.1 hb.1.2]
  rw [w64 (bquo _ _ * _) (by omega) (by omega), w64 _ (by omega) (by omega), if_pos (by omega), laws_abs_f _ (by omega) (by omega), bsome, w64 (2 * _) (by omega) (by omega), w64 (-abs3 _) (by omega) (by omega), if_pos (by omega), bsome, if_pos (by omega),
    impl_ValueOf_f _ (word (val a) _) (by omega) (by rw [length_word]; omega), bsome, if_pos (word_word _ _ (by omega) (by omega)), val_word _ _ (by omega) (by omega), bsome, if_pos rfl,
    impl_ValueOf_f _ (word 0 _) (by omega) (by rw [length_word]; omega), bsome, if_pos (word_word _ _ ld (by omega)), val_word _ _ (by omega) (by omega)]
  rfl

end Go.Proofs.Ytfhbdknmjbgghaa.Pure
