/- For all words a and b and all places the program's CutProduct gives what the reference gives, changes no argument, and shares no memory; no condition. -/
import Derived.Test.YtfhbdknmjbgghaaPx4
import Derived.Test.YtfhbdknmjbgghaaGlue
namespace Go.Proofs.Ytfhbdknmjbgghaa.Pure
open Go.RowKit Go.Proofs.Ytfhbdknmjbgghaa.Tern Go.Proofs.Ytfhbdknmjbgghaa.P Go.Proofs.YtfhbdknmjbgghaaW.PrintWords Go.Proofs.YtfhbdknmjbgghaaW.PrintLast
set_option linter.unusedVariables false
set_option linter.unusedSimpArgs false

namespace FnExactCutProductParts
theorem impl_IsTrit_f (a : Int) : impl_IsTrit.f a = some (decide (Trit a)) := by
  unfold impl_IsTrit.f Trit
  split
  · rename_i h
    simp [show -1 ≤ a from h]
  · rename_i h
    have : ¬ (-1 ≤ a) := h
    simp [this]
theorem spec_IsTrit_f (a : Int) : spec_IsTrit.f a = some (decide (Trit a)) := by
  unfold spec_IsTrit.f spec_l1In.f Trit
  split
  · rename_i h
    simp [show -1 ≤ a from h]
  · rename_i h
    have : ¬ (-1 ≤ a) := h
    simp [this]
theorem spec_l1In_f (x a b : Int) : spec_l1In.f x a b = some (decide (a ≤ x ∧ x ≤ b)) := by
  unfold spec_l1In.f
  split
  · rename_i h
    simp [show a ≤ x from h]
  · rename_i h
    have : ¬ (a ≤ x) := h
    simp [this]
theorem impl_trits_l0 (l : List Int) (hl : l.length ≤ 2000000) : ∀ (d k i : Nat), i + d = l.length → d < k →
    impl_trits.l0 k l (l.length : Int) (i : Int) = some (decide (Trits (l.drop i))) := by
  intro d
  induction d with
  | zero =>
    intro k i h hk
    obtain ⟨k, rfl⟩ : ∃ m, k = m + 1 := ⟨k - 1, by omega⟩
    simp only [impl_trits.l0]
    rw [if_neg (by omega), List.drop_eq_nil_of_le (by omega)]
    simp [Trits.nil]
  | succ d ih =>
    intro k i h hk
    obtain ⟨k, rfl⟩ : ∃ m, k = m + 1 := ⟨k - 1, by omega⟩
    simp only [impl_trits.l0]
    rw [if_pos (by omega), if_pos (by omega), if_pos (by omega), impl_IsTrit_f, drop_rd l i (by omega)]
    simp only [bsome, Trits.cons]
    by_cases ht : Trit (rd l (i : Int))
    · rw [if_pos (by simpa using ht), w64 _ (by omega) (by omega)]
      have := ih k (i + 1) (by omega) (by omega)
      rw [show ((i + 1 : Nat) : Int) = (i : Int) + 1 from by omega] at this
      rw [this]; simp [ht]
    · rw [if_neg (by simpa using ht)]; simp [ht]
theorem impl_trits_f (k : Nat) (l : List Int) (hk : 2000001 ≤ k) (hl : l.length ≤ 2000000) : impl_trits.f k l = some (decide (Trits l)) := by
  unfold impl_trits.f
  have := impl_trits_l0 l hl l.length k 0 (by omega) (by omega)
  simpa using this
theorem impl_IsWord_f (k : Nat) (l : List Int) (hk : 2000001 ≤ k) (hl : l.length ≤ 2000000) : impl_IsWord.f k l = some (decide (Word l)) := by
  unfold impl_IsWord.f Word
  rw [impl_trits_f k l hk hl]
  by_cases h1 : 1 ≤ l.length
  · rw [if_pos (by omega)]
    by_cases h2 : l.length ≤ 30
    · rw [if_pos (by omega)]; simp [h1, h2]
    · rw [if_neg (by omega)]; simp [h2]
  · rw [if_neg (by omega)]; simp [h1]
theorem spec_IsWord_l0 (l : List Int) (hl : l.length ≤ 2000000) : ∀ (d k i : Nat), i + d = l.length → d < k →
    spec_IsWord.l0 k l l (l.length : Int) (i : Int) = some (decide (1 ≤ l.length ∧ l.length ≤ 30 ∧ Trits (l.drop i))) := by
  intro d
  induction d with
  | zero =>
    intro k i h hk
    obtain ⟨k, rfl⟩ : ∃ m, k = m + 1 := ⟨k - 1, by omega⟩
    simp only [spec_IsWord.l0]
    rw [if_neg (by omega), List.drop_eq_nil_of_le (by omega), spec_l1In_f]
    have e : (1 ≤ (l.length : Int) ∧ (l.length : Int) ≤ 30) = (1 ≤ l.length ∧ l.length ≤ 30) := by apply propext; omega
    simp [Trits.nil, e]
  | succ d ih =>
    intro k i h hk
    obtain ⟨k, rfl⟩ : ∃ m, k = m + 1 := ⟨k - 1, by omega⟩
    simp only [spec_IsWord.l0]
    rw [if_pos (by omega), if_pos (by omega), if_pos (by omega), spec_IsTrit_f, drop_rd l i (by omega)]
    simp only [bsome, Trits.cons]
    by_cases ht : Trit (rd l (i : Int))
    · rw [if_pos (by simpa using ht), w64 _ (by omega) (by omega)]
      have := ih k (i + 1) (by omega) (by omega)
      rw [show ((i + 1 : Nat) : Int) = (i : Int) + 1 from by omega] at this
      rw [this]; simp [ht]
    · rw [if_neg (by simpa using ht)]; simp [ht]
theorem spec_IsWord_f (k : Nat) (l : List Int) (hk : 2000001 ≤ k) (hl : l.length ≤ 2000000) : spec_IsWord.f k l = some (decide (Word l)) := by
  unfold spec_IsWord.f Word
  exact spec_IsWord_l0 l hl l.length k 0 (by omega) (by omega)
theorem impl_value_l0 (l : List Int) (hl : l.length ≤ 30) (hb : Digs l) : ∀ (n k : Nat) (x : Int), n ≤ l.length → n < k → x = (n : Int) - 1 →
    impl_value.l0 k l (val (l.drop n)) x = some (val l) := by
  intro n
  induction n with
  | zero =>
    intro k x h hk hx
    obtain ⟨k, rfl⟩ : ∃ m, k = m + 1 := ⟨k - 1, by omega⟩
    simp only [impl_value.l0]
    rw [if_neg (by omega), List.drop_zero]
  | succ n ih =>
    intro k x h hk hx
    obtain ⟨k, rfl⟩ : ∃ m, k = m + 1 := ⟨k - 1, by omega⟩
    obtain rfl : x = (n : Int) := by omega
    have b1 := val_drop_bd l hl hb (n + 1)
    have b2 := hb _ (rd_mem l n (by omega))
    simp only [impl_value.l0]
    rw [if_pos (by omega), if_pos (by omega), if_pos (by omega), w64 (3 * _) (by omega) (by omega), w64 _ (by omega) (by omega), w64 _ (by omega) (by omega)]
    have e : val (l.drop n) = 3 * val (l.drop (n + 1)) + rd l (n : Int) := by rw [drop_rd l n (by omega)]; simp only [val]; omega
    rw [← e]
    exact ih k _ (by omega) (by omega) rfl
theorem impl_value_f (k : Nat) (l : List Int) (hk : 31 ≤ k) (hl : l.length ≤ 30) (hb : Digs l) : impl_value.f k l = some (val l) := by
  unfold impl_value.f
  have := impl_value_l0 l hl hb l.length k (wrap64 ((l.length : Int) - 1)) (Nat.le_refl _) (by omega) (w64 _ (by omega) (by omega))
  rw [List.drop_length] at this
  exact this
theorem spec_l2Value_l0 (l : List Int) (hl : l.length ≤ 30) (hb : Digs l) : ∀ (n k : Nat) (x : Int), n ≤ l.length → n < k → x = (n : Int) - 1 →
    spec_l2Value.l0 k l (val (l.drop n)) x = some (val l) := by
  intro n
  induction n with
  | zero =>
    intro k x h hk hx
    obtain ⟨k, rfl⟩ : ∃ m, k = m + 1 := ⟨k - 1, by omega⟩
    simp only [spec_l2Value.l0]
    rw [if_neg (by omega), List.drop_zero]
  | succ n ih =>
    intro k x h hk hx
    obtain ⟨k, rfl⟩ : ∃ m, k = m + 1 := ⟨k - 1, by omega⟩
    obtain rfl : x = (n : Int) := by omega
    have b1 := val_drop_bd l hl hb (n + 1)
    have b2 := hb _ (rd_mem l n (by omega))
    simp only [spec_l2Value.l0]
    rw [if_pos (by omega), if_pos (by omega), if_pos (by omega), w64 (3 * _) (by omega) (by omega), w64 _ (by omega) (by omega), w64 _ (by omega) (by omega)]
    have e : val (l.drop n) = 3 * val (l.drop (n + 1)) + rd l (n : Int) := by rw [drop_rd l n (by omega)]; simp only [val]; omega
    rw [← e]
    exact ih k _ (by omega) (by omega) rfl
theorem spec_l2Value_f (k : Nat) (l : List Int) (hk : 31 ≤ k) (hl : l.length ≤ 30) (hb : Digs l) : spec_l2Value.f k l = some (val l) := by
  unfold spec_l2Value.f
  have := spec_l2Value_l0 l hl hb l.length k (wrap64 ((l.length : Int) - 1)) (Nat.le_refl _) (by omega) (w64 _ (by omega) (by omega))
  rw [List.drop_length] at this
  exact this
theorem impl_power_l0 (a : Int) (ha : a ≤ 30) : ∀ (d k i : Nat), (i : Int) + d = a → d < k → impl_power.l0 k (pow3 i) a (i : Int) = some (pow3 a.toNat) := by
  intro d
  induction d with
  | zero =>
    intro k i h hk
    obtain ⟨k, rfl⟩ : ∃ m, k = m + 1 := ⟨k - 1, by omega⟩
    simp only [impl_power.l0]
    rw [if_neg (by omega), show a.toNat = i from by omega]
  | succ d ih =>
    intro k i h hk
    obtain ⟨k, rfl⟩ : ∃ m, k = m + 1 := ⟨k - 1, by omega⟩
    have h1 := pow3_pos i
    have h2 : pow3 i ≤ pow3 30 := pow3_mono (by omega)
    rw [pow3_30] at h2
    simp only [impl_power.l0]
    rw [if_pos (by omega), w64 _ (by omega) (by omega), w64 _ (by omega) (by omega)]
    have := ih k (i + 1) (by omega) (by omega)
    simp only [pow3] at this
    rw [show pow3 i * 3 = 3 * pow3 i from by omega, show (i : Int) + 1 = ((i + 1 : Nat) : Int) from by omega]
    exact this
theorem impl_power_f (k : Nat) (a : Int) (hk : 31 ≤ k) (ha : a ≤ 30) : impl_power.f k a = some (pow3 a.toNat) := by
  unfold impl_power.f
  by_cases h : 0 ≤ a
  · exact impl_power_l0 a ha a.toNat k 0 (by omega) (by omega)
  · obtain ⟨k, rfl⟩ : ∃ m, k = m + 1 := ⟨k - 1, by omega⟩
    simp only [impl_power.l0]
    rw [if_neg (by omega), show a.toNat = 0 from by omega]; rfl
theorem impl_LimitOf_f (k : Nat) (a : Int) (hk : 31 ≤ k) : impl_LimitOf.f k a = some (if 1 ≤ a ∧ a ≤ 30 then lim a.toNat else 0) := by
  unfold impl_LimitOf.f
  by_cases h1 : a < 1
  · rw [if_pos h1, if_neg (by omega)]
  · rw [if_neg h1]
    by_cases h2 : a > 30
    · rw [if_pos h2, if_neg (by omega)]
    · rw [if_neg h2, impl_power_f k a hk (by omega), if_pos (by omega)]
      have h3 := pow3_lim a.toNat
      have h4 := lim_nonneg a.toNat
      have h5 : lim a.toNat ≤ lim 30 := lim_mono (by omega)
      rw [lim30] at h5
      simp only [bsome]
      rw [w64 (pow3 _ - 1) (by omega) (by omega), h3, show 2 * lim a.toNat + 1 - 1 = 2 * lim a.toNat from by omega, Int.mul_tdiv_cancel_left _ (by omega), w64 _ (by omega) (by omega)]
theorem impl_fits_f (k : Nat) (n a : Int) (hk : 31 ≤ k) (h1 : 1 ≤ a) (h2 : a ≤ 30) : impl_fits.f k n a = some (decide (-lim a.toNat ≤ n ∧ n ≤ lim a.toNat)) := by
  unfold impl_fits.f
  have h4 := lim_nonneg a.toNat
  have h5 : lim a.toNat ≤ lim 30 := lim_mono (by omega)
  rw [lim30] at h5
  rw [impl_LimitOf_f k a hk, if_pos ⟨h1, h2⟩]
  simp only [bsome]
  rw [w64 _ (by omega) (by omega)]
  by_cases h : n ≥ -lim a.toNat
  · rw [if_pos h]; simp [show -lim a.toNat ≤ n from h]
  · rw [if_neg h]
    have : ¬ -lim a.toNat ≤ n := h
    simp [this]
theorem impl_carried_tmod (n : Int) : ∃ c, impl_carried.f (Int.tmod n 3) = some (low3 n, c) := by
  unfold impl_carried.f low3
  rcases Int.le_total 0 n with h | h
  · rw [tmod3_nonneg n h]
    split
    · rw [w64 _ (by omega) (by omega)]; exact ⟨1, by congr 2; omega⟩
    · rw [if_neg (by omega)]; exact ⟨0, by congr 2; omega⟩
  · have e2 := tmod3_nonpos n h
    rw [e2]
    split
    · omega
    · split
      · rw [w64 _ (by omega) (by omega)]; exact ⟨-1, by congr 2; omega⟩
      · exact ⟨0, by congr 2; omega⟩
theorem tdiv_low3 (n : Int) : Int.tdiv (n - low3 n) 3 = rest3 n := by
  have := low3_rest3 n
  rw [show n - low3 n = 3 * rest3 n from by omega, Int.mul_tdiv_cancel_left _ (by omega)]
theorem rest3_bd (n B : Int) (hB : 0 ≤ B) (h0 : -B ≤ n) (h1 : n ≤ B) : -B ≤ rest3 n ∧ rest3 n ≤ B := by unfold rest3; omega
theorem impl_WordOf_l0 (a : Int) (ha : a ≤ 30) : ∀ (d k i : Nat) (n : Int) (acc : List Int), (i : Int) + d = a → d < k → acc.length = i → -1000000000000000000 ≤ n → n ≤ 1000000000000000000 →
    impl_WordOf.l0 k n acc a (i : Int) = some (acc ++ word n d, true) := by
  intro d
  induction d with
  | zero =>
    intro k i n acc h hk hl h0 h1
    obtain ⟨k, rfl⟩ : ∃ m, k = m + 1 := ⟨k - 1, by omega⟩
    simp only [impl_WordOf.l0]
    rw [if_neg (by omega)]; simp [word]
  | succ d ih =>
    intro k i n acc h hk hl h0 h1
    obtain ⟨k, rfl⟩ : ∃ m, k = m + 1 := ⟨k - 1, by omega⟩
    obtain ⟨c, hc⟩ := impl_carried_tmod n
    have ht := low3_trit n
    unfold Trit at ht
    have hu := rest3_bd n 1000000000000000000 (by omega) (by omega) h1
    simp only [impl_WordOf.l0]
    rw [if_pos (by omega), hc]
    simp only [bsome]
    rw [if_pos (by omega), w64 (n - low3 n) (by omega) (by omega), tdiv_low3, w64 (rest3 n) (by omega) (by omega), w64 _ (by omega) (by omega), show (i : Int) + 1 = ((i + 1 : Nat) : Int) from by omega,
      ih k (i + 1) (rest3 n) (acc ++ [low3 n]) (by omega) (by omega) (by simp [hl]) hu.1 hu.2]
    simp [word]
theorem impl_WordOf_f (k : Nat) (n a : Int) (hk : 40 ≤ k) (ha : -9223372036854775808 ≤ a) : impl_WordOf.f k n a = some (wordOf n a) := by
  obtain ⟨k, rfl⟩ : ∃ m, k = m + 1 := ⟨k - 1, by omega⟩
  unfold impl_WordOf.f wordOf
  by_cases h1 : a < 1
  · rw [if_pos h1, if_neg (by omega)]; simp only [impl_WordOf.j0]; rfl
  · rw [if_neg h1]
    by_cases h2 : a > 30
    · rw [if_pos h2, if_neg (by omega)]; simp only [impl_WordOf.j0]; rfl
    · rw [if_neg h2, impl_fits_f _ n a (by omega) (by omega) (by omega)]
      simp only [bsome, impl_WordOf.j0]
      have h5 : lim a.toNat ≤ lim 30 := lim_mono (by omega)
      rw [lim30] at h5
      by_cases h : -lim a.toNat ≤ n ∧ n ≤ lim a.toNat
      · rw [if_neg (by simpa using h), if_pos ⟨by omega, by omega, h⟩]
        have := impl_WordOf_l0 a (by omega) a.toNat k 0 n [] (by omega) (by omega) rfl (by omega) (by omega)
        simpa using this
      · rw [if_pos (by rw [decide_eq_false h]; rfl), if_neg (fun hh => h hh.2.2)]
theorem spec_l2Word_l0 (a : Int) (ha : a ≤ 30) : ∀ (d k i : Nat) (n : Int) (acc : List Int), (i : Int) + d = a → d < k → acc.length = i → -1000000000000000000 ≤ n → n ≤ 1000000000000000000 →
    spec_l2Word.l0 k n a acc (i : Int) = some (acc ++ word n d) := by
  intro d
  induction d with
  | zero =>
    intro k i n acc h hk hl h0 h1
    obtain ⟨k, rfl⟩ : ∃ m, k = m + 1 := ⟨k - 1, by omega⟩
    simp only [spec_l2Word.l0]
    rw [if_neg (by omega)]; simp [word]
  | succ d ih =>
    intro k i n acc h hk hl h0 h1
    obtain ⟨k, rfl⟩ : ∃ m, k = m + 1 := ⟨k - 1, by omega⟩
    have ht := low3_trit n
    unfold Trit at ht
    have hu := rest3_bd n 1000000000000000000 (by omega) (by omega) h1
    have fin : spec_l2Word.l0 k (wrap64 (Int.tdiv (wrap64 (n - low3 n)) 3)) a (acc ++ [low3 n]) (wrap64 ((i : Int) + 1)) = some (acc ++ word n (d + 1)) := by
      rw [w64 (n - low3 n) (by omega) (by omega), tdiv_low3, w64 (rest3 n) (by omega) (by omega), w64 _ (by omega) (by omega), show (i : Int) + 1 = ((i + 1 : Nat) : Int) from by omega,
        ih k (i + 1) (rest3 n) (acc ++ [low3 n]) (by omega) (by omega) (by simp [hl]) hu.1 hu.2]
      simp [word]
    simp only [spec_l2Word.l0]
    rw [if_pos (by omega)]
    rcases Int.le_total 0 n with h | h
    · have e2 := tmod3_nonneg n h
      rw [e2]
      by_cases c : n % 3 > 1
      · rw [if_pos c, w64 (n % 3 - 3) (by omega) (by omega), if_neg (by omega), if_pos (by omega), show n % 3 - 3 = low3 n from by unfold low3; omega]
        exact fin
      · rw [if_neg c, if_neg (by omega), if_pos (by omega), show n % 3 = low3 n from by unfold low3; omega]
        exact fin
    · have e2 := tmod3_nonpos n h
      rw [e2, if_neg (by omega)]
      by_cases c : -((-n) % 3) < -1
      · rw [if_pos c, if_pos (by omega), w64 (-(-n % 3) + 3) (by omega) (by omega), show -(-n % 3) + 3 = low3 n from by unfold low3; omega]
        exact fin
      · rw [if_neg c, if_pos (by omega), show -(-n % 3) = low3 n from by unfold low3; omega]
        exact fin
theorem spec_l2Word_f (k : Nat) (n a : Int) (hk : 40 ≤ k) (ha0 : 0 ≤ a) (ha : a ≤ 30) (h0 : -1000000000000000000 ≤ n) (h1 : n ≤ 1000000000000000000) : spec_l2Word.f k n a = some (word n a.toNat) := by
  unfold spec_l2Word.f
  have := spec_l2Word_l0 a ha a.toNat k 0 n [] (by omega) (by omega) rfl h0 h1
  simpa using this
theorem laws_toIntS_l0 (l : List Int) (hl : l.length ≤ 2000000) : ∀ (d k i : Nat), i + d = l.length → d < k →
    laws_toIntS.l0 k l (l.take i ++ List.replicate d 0) (i : Int) = some l := by
  intro d
  induction d with
  | zero =>
    intro k i h hk
    obtain ⟨k, rfl⟩ : ∃ m, k = m + 1 := ⟨k - 1, by omega⟩
    simp only [laws_toIntS.l0]
    rw [if_neg (by omega)]; simp [List.take_of_length_le (show l.length ≤ i by omega)]
  | succ d ih =>
    intro k i h hk
    obtain ⟨k, rfl⟩ : ∃ m, k = m + 1 := ⟨k - 1, by omega⟩
    have hlen : (l.take i).length = i := by rw [List.length_take]; omega
    simp only [laws_toIntS.l0]
    rw [if_pos (by omega), if_pos (by omega), if_pos (by rw [List.length_append, List.length_replicate, hlen]; omega), w64 _ (by omega) (by omega)]
    have e : (l.take i ++ List.replicate (d + 1) (0 : Int)).set (i : Int).toNat (rd l (i : Int)) = l.take (i + 1) ++ List.replicate d 0 := by
      have h1 := set_append_len (l.take i) 0 (rd l (i : Int)) (List.replicate d 0)
      rw [hlen] at h1
      rw [Int.toNat_natCast, List.replicate_succ, h1, take_rd l i (by omega), List.append_assoc]; rfl
    rw [e, show (i : Int) + 1 = ((i + 1 : Nat) : Int) from by omega]
    exact ih k (i + 1) (by omega) (by omega)
theorem laws_toIntS_f (k : Nat) (l : List Int) (hk : 2000001 ≤ k) (hl : l.length ≤ 2000000) : laws_toIntS.f k l = some l := by
  unfold laws_toIntS.f
  rw [if_pos (by omega), if_pos (by omega)]
  have := laws_toIntS_l0 l hl l.length k 0 (by omega) (by omega)
  simpa using this
theorem laws_eqIntS_l0 (a b : List Int) (hl : a.length ≤ 2000000) (hb : a.length = b.length) : ∀ (d k i : Nat), i + d = a.length → d < k →
    laws_eqIntS.l0 k a b (i : Int) = some (decide (a.drop i = b.drop i)) := by
  intro d
  induction d with
  | zero =>
    intro k i h hk
    obtain ⟨k, rfl⟩ : ∃ m, k = m + 1 := ⟨k - 1, by omega⟩
    simp only [laws_eqIntS.l0]
    rw [if_neg (by omega), List.drop_eq_nil_of_le (by omega), List.drop_eq_nil_of_le (by omega)]; simp
  | succ d ih =>
    intro k i h hk
    obtain ⟨k, rfl⟩ : ∃ m, k = m + 1 := ⟨k - 1, by omega⟩
    simp only [laws_eqIntS.l0]
    rw [if_pos (by omega), if_pos (by omega), if_pos (by omega), drop_rd a i (by omega), drop_rd b i (by omega), w64 _ (by omega) (by omega)]
    by_cases c : rd a (i : Int) = rd b (i : Int)
    · rw [if_pos c, show (i : Int) + 1 = ((i + 1 : Nat) : Int) from by omega, ih k (i + 1) (by omega) (by omega)]
      simp [c]
    · rw [if_neg c]; simp [c]
theorem laws_eqIntS_f (k : Nat) (a b : List Int) (hk : 2000001 ≤ k) (hl : a.length ≤ 2000000) : laws_eqIntS.f k a b = some (decide (a = b)) := by
  unfold laws_eqIntS.f
  by_cases h : a.length = b.length
  · rw [if_pos (by omega)]
    have := laws_eqIntS_l0 a b hl h a.length k 0 (by omega) (by omega)
    simpa using this
  · rw [if_neg (by omega)]
    have : a ≠ b := fun e => h (by rw [e])
    simp [this]
theorem laws_markIntS_l0 : ∀ (rest pre : List Int) (k : Nat) (m : Int), (pre ++ rest).length ≤ 2000000 → rest.length < k → 0 ≤ m → m ≤ 1000000000000 → m + rest.length ≤ 1000000000000 →
    laws_markIntS.l0 k (pre ++ rest) m (pre.length : Int) = some (m + rest.length, pre ++ marks m rest.length) := by
  intro rest
  induction rest with
  | nil =>
    intro pre k m hl hk h0 h1 h2
    obtain ⟨k, rfl⟩ : ∃ m, k = m + 1 := ⟨k - 1, by simp only [List.length_nil] at hk; omega⟩
    simp only [laws_markIntS.l0]
    rw [if_neg (by simp)]; simp [marks]
  | cons x rest ih =>
    intro pre k m hl hk h0 h1 h2
    simp only [List.length_cons, List.length_append] at *
    obtain ⟨k, rfl⟩ : ∃ m, k = m + 1 := ⟨k - 1, by omega⟩
    simp only [laws_markIntS.l0]
    rw [if_pos (by simp only [List.length_append, List.length_cons]; omega), if_pos (by omega), Int.toNat_natCast, set_append_len, w64 _ (by omega) (by omega), w64 _ (by omega) (by omega)]
    have := ih (pre ++ [m]) k (m + 1) (by simp; omega) (by omega) (by omega) (by omega) (by omega)
    simp only [List.append_assoc, List.singleton_append, List.length_append, List.length_singleton] at this
    rw [show (pre.length : Int) + 1 = ((pre.length + 1 : Nat) : Int) from by omega, this]
    simp [marks]; omega
theorem laws_markIntS_f (k : Nat) (l : List Int) (m : Int) (hk : 2000001 ≤ k) (hl : l.length ≤ 2000000) (h0 : 0 ≤ m) (h1 : m ≤ 10000000000) : laws_markIntS.f k l m = some (m + l.length, marks m l.length) := by
  unfold laws_markIntS.f
  have := laws_markIntS_l0 l [] k m (by simpa using hl) (by omega) h0 (by omega) (by omega)
  simpa using this
theorem laws_heldIntS_l0 (l : List Int) (hl : l.length ≤ 2000000) : ∀ (d k i : Nat) (m : Int), i + d = l.length → d < k → 0 ≤ m → m + d ≤ 1000000000000 →
    laws_heldIntS.l0 k l m (i : Int) = some (if l.drop i = marks m d then m + d else -1) := by
  intro d
  induction d with
  | zero =>
    intro k i m h hk h0 h1
    obtain ⟨k, rfl⟩ : ∃ m, k = m + 1 := ⟨k - 1, by omega⟩
    simp only [laws_heldIntS.l0]
    rw [if_neg (by omega), List.drop_eq_nil_of_le (by omega)]; simp [marks]
  | succ d ih =>
    intro k i m h hk h0 h1
    obtain ⟨k, rfl⟩ : ∃ m, k = m + 1 := ⟨k - 1, by omega⟩
    simp only [laws_heldIntS.l0]
    rw [if_pos (by omega), if_pos (by omega), drop_rd l i (by omega), w64 _ (by omega) (by omega), w64 _ (by omega) (by omega)]
    simp only [marks, List.cons.injEq]
    by_cases c : rd l (i : Int) = m
    · rw [if_pos c, show (i : Int) + 1 = ((i + 1 : Nat) : Int) from by omega, ih k (i + 1) (m + 1) (by omega) (by omega) (by omega) (by omega)]
      simp only [c, true_and]
      split
      · congr 1; omega
      · rfl
    · rw [if_neg c, if_neg (fun hh => c hh.1)]
theorem laws_heldIntS_f (k : Nat) (l : List Int) (m : Int) (hk : 2000001 ≤ k) (hl : l.length ≤ 2000000) (h0 : 0 ≤ m) (h1 : m ≤ 10000000000) : laws_heldIntS.f k l m = some (if l = marks m l.length then m + l.length else -1) := by
  unfold laws_heldIntS.f
  have := laws_heldIntS_l0 l hl l.length k 0 m (by omega) (by omega) h0 (by omega)
  simpa using this
theorem laws_heldIntS_marks (k : Nat) (m : Int) (n : Nat) (hk : 2000001 ≤ k) (hl : n ≤ 2000000) (h0 : 0 ≤ m) (h1 : m ≤ 10000000000) : laws_heldIntS.f k (marks m n) m = some (m + n) := by
  rw [laws_heldIntS_f k (marks m n) m hk (by rw [length_marks]; exact hl) h0 h1, length_marks, if_pos rfl]
theorem impl_two_f (k : Nat) (a b : List Int) (hk : 2000001 ≤ k) (ha : a.length ≤ 2000000) (hb : b.length ≤ 2000000) : impl_two.f k a b = some (decide (Word a ∧ Word b ∧ a.length + b.length ≤ 30)) := by
  unfold impl_two.f
  rw [impl_IsWord_f k a hk ha, impl_IsWord_f k b hk hb]
  simp only [bsome]
  by_cases h1 : Word a
  · by_cases h2 : Word b
    · simp only [h1, h2, decide_true, if_true, true_and]
      rw [w64 _ (by omega) (by omega)]
      congr 1
      by_cases h3 : a.length + b.length ≤ 30
      · simp only [h3, decide_true]; exact decide_eq_true (by omega)
      · simp only [h3, decide_false]; exact decide_eq_false (by omega)
    · simp [h1, h2]
  · simp [h1]
theorem spec_l4Fit_f (k : Nat) (a b : List Int) (hk : 2000001 ≤ k) (ha : a.length ≤ 2000000) (hb : b.length ≤ 2000000) : spec_l4Fit.f k a b = some (decide (Word a ∧ Word b ∧ a.length + b.length ≤ 30)) := by
  unfold spec_l4Fit.f
  rw [spec_IsWord_f k a hk ha, spec_IsWord_f k b hk hb]
  simp only [bsome]
  by_cases h1 : Word a
  · by_cases h2 : Word b
    · simp only [h1, h2, decide_true, if_true, true_and]
      rw [w64 _ (by omega) (by omega)]
      congr 1
      by_cases h3 : a.length + b.length ≤ 30
      · simp only [h3, decide_true]; exact decide_eq_true (by omega)
      · simp only [h3, decide_false]; exact decide_eq_false (by omega)
    · simp [h1, h2]
  · simp [h1]
def mulOf (a b : List Int) : List Int × Bool := if Word a ∧ Word b ∧ a.length + b.length ≤ 30 then (word (val a * val b) (a.length + b.length), true) else ([], false)
theorem mul_bds {a b : List Int} (h : Word a ∧ Word b ∧ a.length + b.length ≤ 30) : (-lim (a.length + b.length) ≤ val a * val b ∧ val a * val b ≤ lim (a.length + b.length)) ∧ -102945566047324 ≤ val a * val b ∧ val a * val b ≤ 102945566047324 := by
  have h1 := mul_lim (val_bd a h.1.2.2) (val_bd b h.2.1.2.2)
  have h2 : lim (a.length + b.length) ≤ lim 30 := lim_mono h.2.2
  rw [lim30] at h2
  omega
theorem impl_MultiplyWords_f (k : Nat) (a b : List Int) (hk : 2000001 ≤ k) (ha : a.length ≤ 2000000) (hb : b.length ≤ 2000000) : impl_MultiplyWords.f k a b = some (mulOf a b) := by
  unfold impl_MultiplyWords.f mulOf
  rw [impl_two_f k a b hk ha hb]
  simp only [bsome]
  by_cases h : Word a ∧ Word b ∧ a.length + b.length ≤ 30
  · have hm := mul_bds h
    rw [if_pos (by simpa using h), if_pos h, impl_value_f k a (by omega) h.1.2.1 h.1.2.2.digs, impl_value_f k b (by omega) h.2.1.2.1 h.2.1.2.2.digs]
    simp only [bsome]
    rw [w64 (val a * val b) (by omega) (by omega), w64 _ (by omega) (by omega), impl_WordOf_f k _ _ (by omega) (by omega)]
    have e : ((a.length : Int) + (b.length : Int)).toNat = a.length + b.length := by omega
    have h1 := h.1.1
    rw [wordOf_yes (by omega) (by omega) (by rw [e]; exact hm.1.1) (by rw [e]; exact hm.1.2), e]
    rfl
  · rw [if_neg (by simpa using h), if_neg h]
theorem spec_MultiplyWords_f (k : Nat) (a b : List Int) (hk : 2000001 ≤ k) (ha : a.length ≤ 2000000) (hb : b.length ≤ 2000000) : spec_MultiplyWords.f k a b = some (mulOf a b) := by
  unfold spec_MultiplyWords.f mulOf
  rw [spec_l4Fit_f k a b hk ha hb]
  simp only [bsome]
  by_cases h : Word a ∧ Word b ∧ a.length + b.length ≤ 30
  · have hm := mul_bds h
    rw [if_pos (by simpa using h), if_pos h, spec_l2Value_f k a (by omega) h.1.2.1 h.1.2.2.digs, spec_l2Value_f k b (by omega) h.2.1.2.1 h.2.1.2.2.digs]
    simp only [bsome]
    rw [w64 (val a * val b) (by omega) (by omega), w64 _ (by omega) (by omega)]
    have e : ((a.length : Int) + (b.length : Int)).toNat = a.length + b.length := by omega
    rw [spec_l2Word_f k _ _ (by omega) (by omega) (by omega) (by omega) (by omega), e]
    rfl
  · rw [if_neg (by simpa using h), if_neg h]
theorem mulOf_len (a b : List Int) : (mulOf a b).1.length ≤ 30 := by
  unfold mulOf
  split
  · rename_i h
    rw [length_word]; exact h.2.2
  · simp
theorem spec_l2Copy_f (l : List Int) (hl : l.length ≤ 2000000) : spec_l2Copy.f l = some l := by
  unfold spec_l2Copy.f
  rw [bsome, if_pos (by simp; omega)]; rfl
def cutP (a b : List Int) (i : Int) : List Int × Bool := if (mulOf a b).2 = true ∧ 0 ≤ i ∧ i < ((mulOf a b).1.length : Int) then ((mulOf a b).1.drop i.toNat, true) else ([], false)
theorem cutP_len (a b : List Int) (i : Int) : (cutP a b i).1.length ≤ 30 := by
  have := mulOf_len a b
  unfold cutP
  split
  · rw [List.length_drop]; omega
  · simp
theorem impl_CutProduct_all (k : Nat) (a b : List Int) (i : Int) (hk : 2000001 ≤ k) (ha : a.length ≤ 2000000) (hb : b.length ≤ 2000000) : impl_CutProduct.f k a b i = some (cutP a b i) := by
  have hl := mulOf_len a b
  unfold impl_CutProduct.f cutP
  rw [impl_MultiplyWords_f k a b hk ha hb, bsome]
  generalize mulOf a b = r at *
  by_cases h : r.2 = true
  · rw [if_pos h, w64 _ (by omega) (by omega)]
    by_cases h0 : i < 0
    · rw [if_pos h0, if_neg (by omega)]
    · rw [if_neg h0]
      by_cases h1 : i > (r.1.length : Int) - 1
      · rw [if_pos h1, if_neg (by omega)]
      · rw [if_neg h1, if_pos (by omega), if_pos (by omega), if_pos ⟨h, by omega, by omega⟩]
  · rw [if_neg h, if_neg (fun x => h x.1)]
theorem spec_CutProduct_all (k : Nat) (a b : List Int) (i : Int) (hk : 2000001 ≤ k) (ha : a.length ≤ 2000000) (hb : b.length ≤ 2000000) : spec_CutProduct.f k a b i = some (cutP a b i) := by
  have hl := mulOf_len a b
  unfold spec_CutProduct.f cutP
  rw [spec_MultiplyWords_f k a b hk ha hb, bsome]
  generalize mulOf a b = r at *
  by_cases h : r.2 = true
  · rw [if_pos h, w64 _ (by omega) (by omega), spec_l1In_f, bsome]
    by_cases h0 : 0 ≤ i ∧ i ≤ (r.1.length : Int) - 1
    · rw [if_pos (by simpa using h0), if_pos (by omega), if_pos (by omega), spec_l2Copy_f _ (by rw [List.length_drop]; omega), bsome, if_pos ⟨h, by omega, by omega⟩]
    · rw [if_neg (by rw [decide_eq_false h0]; decide), if_neg (fun x => h0 ⟨by omega, by omega⟩)]
  · rw [if_neg h, if_neg (fun x => h x.1)]
end FnExactCutProductParts
open FnExactCutProductParts
attribute [local congr] bind_left

theorem FnExactCutProduct : laws_FnExactCutProduct.Pure := by
  intro l0 l1 i _ _ _ _ _ _ _
  obtain ⟨K, hK⟩ : ∃ K, 100000000 ≤ K := ⟨_, Nat.le_refl _⟩
  refine ⟨K + 4, ?_⟩
  unfold laws_FnExactCutProduct.f
  by_cases h0 : (l0.length : Int) > 1048576
  · rw [if_pos h0]
  by_cases h1 : (l1.length : Int) > 1048576
  · rw [if_neg h0, if_pos h1]
  have f := fun k (hk : 2000001 ≤ k) => impl_CutProduct_all k l0 l1 i hk (by omega) (by omega)
  have g := fun k (hk : 2000001 ≤ k) => spec_CutProduct_all k l0 l1 i hk (by omega) (by omega)
  have hm := cutP_len l0 l1 i
  generalize cutP l0 l1 i = r at *
  simp (disch := omega) only [↓if_pos, ↓if_neg, ↓reduceIte, bsome, decide_true, bne_self_eq_false, Bool.false_eq_true, laws_toIntS_f, f, g, laws_eqIntS_f, laws_markIntS_f, laws_heldIntS_marks, laws_FnExactCutProduct.j0, laws_FnExactCutProduct.j1, laws_FnExactCutProduct.j2]

end Go.Proofs.Ytfhbdknmjbgghaa.Pure
