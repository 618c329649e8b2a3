/- For all words and powers the program's PowerWord gives what the reference gives, changes no argument, and shares no memory; no condition. -/
import Derived.Test.YtcgfcnpiekcofaaPx23
import Derived.Test.YtcgfcnpiekcofaaGlue
namespace Go.Proofs.Ytcgfcnpiekcofaa.Pure
open Go.RowKit Go.Proofs.Ytcgfcnpiekcofaa.Tern Go.Proofs.Ytcgfcnpiekcofaa.P Go.Proofs.YtcgfcnpiekcofaaW.PrintWords Go.Proofs.YtcgfcnpiekcofaaW.PrintLast
set_option linter.unusedVariables false

namespace FnExactPowerWordParts
theorem impl_IsTrit_f (a : Int) : impl_IsTrit.f a = some (decide (Trit a)) := by
  unfold impl_IsTrit.f Trit
  split
  · rename_i h
    simp [show -1 ≤ a from h]
  · rename_i h
    have : ¬ (-1 ≤ a) := h
    simp [this]
theorem spec_IsTrit_f (a : Int) : spec_IsTrit.f a = some (decide (Trit a)) := by
  unfold spec_IsTrit.f spec_l1In.f Trit
  split
  · rename_i h
    simp [show -1 ≤ a from h]
  · rename_i h
    have : ¬ (-1 ≤ a) := h
    simp [this]
theorem spec_l1In_f (x a b : Int) : spec_l1In.f x a b = some (decide (a ≤ x ∧ x ≤ b)) := by
  unfold spec_l1In.f
  split
  · rename_i h
    simp [show a ≤ x from h]
  · rename_i h
    have : ¬ (a ≤ x) := h
    simp [this]
theorem impl_trits_l0 (l : List Int) (hl : l.length ≤ 2000000) : ∀ (d k i : Nat), i + d = l.length → d < k →
    impl_trits.l0 k l (l.length : Int) (i : Int) = some (decide (Trits (l.drop i))) := by
  intro d
  induction d with
  | zero =>
    intro k i h hk
    obtain ⟨k, rfl⟩ : ∃ m, k = m + 1 := ⟨k - 1, by omega⟩
    simp only [impl_trits.l0]
    rw [if_neg (by omega), List.drop_eq_nil_of_le (by omega)]
    simp [Trits.nil]
  | succ d ih =>
    intro k i h hk
    obtain ⟨k, rfl⟩ : ∃ m, k = m + 1 := ⟨k - 1, by omega⟩
    simp only [impl_trits.l0]
    rw [if_pos (by omega), if_pos (by omega), if_pos (by omega), impl_IsTrit_f, drop_rd l i (by omega)]
    simp only [bsome, Trits.cons]
    by_cases ht : Trit (rd l (i : Int))
    · rw [if_pos (by simpa using ht), w64 _ (by omega) (by omega)]
      have := ih k (i + 1) (by omega) (by omega)
      rw [show ((i + 1 : Nat) : Int) = (i : Int) + 1 from by omega] at this
      rw [this]; simp [ht]
    · rw [if_neg (by simpa using ht)]; simp [ht]
theorem impl_trits_f (k : Nat) (l : List Int) (hk : 2000001 ≤ k) (hl : l.length ≤ 2000000) : impl_trits.f k l = some (decide (Trits l)) := by
  unfold impl_trits.f
  have := impl_trits_l0 l hl l.length k 0 (by omega) (by omega)
  simpa using this
theorem impl_IsWord_f (k : Nat) (l : List Int) (hk : 2000001 ≤ k) (hl : l.length ≤ 2000000) : impl_IsWord.f k l = some (decide (Word l)) := by
  unfold impl_IsWord.f Word
  rw [impl_trits_f k l hk hl]
  by_cases h1 : 1 ≤ l.length
  · rw [if_pos (by omega)]
    by_cases h2 : l.length ≤ 30
    · rw [if_pos (by omega)]; simp [h1, h2]
    · rw [if_neg (by omega)]; simp [h2]
  · rw [if_neg (by omega)]; simp [h1]
theorem spec_IsWord_l0 (l : List Int) (hl : l.length ≤ 2000000) : ∀ (d k i : Nat), i + d = l.length → d < k →
    spec_IsWord.l0 k l l (l.length : Int) (i : Int) = some (decide (1 ≤ l.length ∧ l.length ≤ 30 ∧ Trits (l.drop i))) := by
  intro d
  induction d with
  | zero =>
    intro k i h hk
    obtain ⟨k, rfl⟩ : ∃ m, k = m + 1 := ⟨k - 1, by omega⟩
    simp only [spec_IsWord.l0]
    rw [if_neg (by omega), List.drop_eq_nil_of_le (by omega), spec_l1In_f]
    have e : (1 ≤ (l.length : Int) ∧ (l.length : Int) ≤ 30) = (1 ≤ l.length ∧ l.length ≤ 30) := by apply propext; omega
    simp [Trits.nil, e]
  | succ d ih =>
    intro k i h hk
    obtain ⟨k, rfl⟩ : ∃ m, k = m + 1 := ⟨k - 1, by omega⟩
    simp only [spec_IsWord.l0]
    rw [if_pos (by omega), if_pos (by omega), if_pos (by omega), spec_IsTrit_f, drop_rd l i (by omega)]
    simp only [bsome, Trits.cons]
    by_cases ht : Trit (rd l (i : Int))
    · rw [if_pos (by simpa using ht), w64 _ (by omega) (by omega)]
      have := ih k (i + 1) (by omega) (by omega)
      rw [show ((i + 1 : Nat) : Int) = (i : Int) + 1 from by omega] at this
      rw [this]; simp [ht]
    · rw [if_neg (by simpa using ht)]; simp [ht]
theorem spec_IsWord_f (k : Nat) (l : List Int) (hk : 2000001 ≤ k) (hl : l.length ≤ 2000000) : spec_IsWord.f k l = some (decide (Word l)) := by
  unfold spec_IsWord.f Word
  exact spec_IsWord_l0 l hl l.length k 0 (by omega) (by omega)
theorem impl_value_l0 (l : List Int) (hl : l.length ≤ 30) (hb : Digs l) : ∀ (n k : Nat) (x : Int), n ≤ l.length → n < k → x = (n : Int) - 1 →
    impl_value.l0 k l (val (l.drop n)) x = some (val l) := by
  intro n
  induction n with
  | zero =>
    intro k x h hk hx
    obtain ⟨k, rfl⟩ : ∃ m, k = m + 1 := ⟨k - 1, by omega⟩
    simp only [impl_value.l0]
    rw [if_neg (by omega), List.drop_zero]
  | succ n ih =>
    intro k x h hk hx
    obtain ⟨k, rfl⟩ : ∃ m, k = m + 1 := ⟨k - 1, by omega⟩
    obtain rfl : x = (n : Int) := by omega
    have b1 := val_drop_bd l hl hb (n + 1)
    have b2 := hb _ (rd_mem l n (by omega))
    simp only [impl_value.l0]
    rw [if_pos (by omega), if_pos (by omega), if_pos (by omega), w64 (3 * _) (by omega) (by omega), w64 _ (by omega) (by omega), w64 _ (by omega) (by omega)]
    have e : val (l.drop n) = 3 * val (l.drop (n + 1)) + rd l (n : Int) := by rw [drop_rd l n (by omega)]; simp only [val]; omega
    rw [← e]
    exact ih k _ (by omega) (by omega) rfl
theorem impl_value_f (k : Nat) (l : List Int) (hk : 31 ≤ k) (hl : l.length ≤ 30) (hb : Digs l) : impl_value.f k l = some (val l) := by
  unfold impl_value.f
  have := impl_value_l0 l hl hb l.length k (wrap64 ((l.length : Int) - 1)) (Nat.le_refl _) (by omega) (w64 _ (by omega) (by omega))
  rw [List.drop_length] at this
  exact this
theorem spec_l2Value_l0 (l : List Int) (hl : l.length ≤ 30) (hb : Digs l) : ∀ (n k : Nat) (x : Int), n ≤ l.length → n < k → x = (n : Int) - 1 →
    spec_l2Value.l0 k l (val (l.drop n)) x = some (val l) := by
  intro n
  induction n with
  | zero =>
    intro k x h hk hx
    obtain ⟨k, rfl⟩ : ∃ m, k = m + 1 := ⟨k - 1, by omega⟩
    simp only [spec_l2Value.l0]
    rw [if_neg (by omega), List.drop_zero]
  | succ n ih =>
    intro k x h hk hx
    obtain ⟨k, rfl⟩ : ∃ m, k = m + 1 := ⟨k - 1, by omega⟩
    obtain rfl : x = (n : Int) := by omega
    have b1 := val_drop_bd l hl hb (n + 1)
    have b2 := hb _ (rd_mem l n (by omega))
    simp only [spec_l2Value.l0]
    rw [if_pos (by omega), if_pos (by omega), if_pos (by omega), w64 (3 * _) (by omega) (by omega), w64 _ (by omega) (by omega), w64 _ (by omega) (by omega)]
    have e : val (l.drop n) = 3 * val (l.drop (n + 1)) + rd l (n : Int) := by rw [drop_rd l n (by omega)]; simp only [val]; omega
    rw [← e]
    exact ih k _ (by omega) (by omega) rfl
theorem spec_l2Value_f (k : Nat) (l : List Int) (hk : 31 ≤ k) (hl : l.length ≤ 30) (hb : Digs l) : spec_l2Value.f k l = some (val l) := by
  unfold spec_l2Value.f
  have := spec_l2Value_l0 l hl hb l.length k (wrap64 ((l.length : Int) - 1)) (Nat.le_refl _) (by omega) (w64 _ (by omega) (by omega))
  rw [List.drop_length] at this
  exact this
theorem impl_power_l0 (a : Int) (ha : a ≤ 30) : ∀ (d k i : Nat), (i : Int) + d = a → d < k → impl_power.l0 k (pow3 i) a (i : Int) = some (pow3 a.toNat) := by
  intro d
  induction d with
  | zero =>
    intro k i h hk
    obtain ⟨k, rfl⟩ : ∃ m, k = m + 1 := ⟨k - 1, by omega⟩
    simp only [impl_power.l0]
    rw [if_neg (by omega), show a.toNat = i from by omega]
  | succ d ih =>
    intro k i h hk
    obtain ⟨k, rfl⟩ : ∃ m, k = m + 1 := ⟨k - 1, by omega⟩
    have h1 := pow3_pos i
    have h2 : pow3 i ≤ pow3 30 := pow3_mono (by omega)
    rw [pow3_30] at h2
    simp only [impl_power.l0]
    rw [if_pos (by omega), w64 _ (by omega) (by omega), w64 _ (by omega) (by omega)]
    have := ih k (i + 1) (by omega) (by omega)
    simp only [pow3] at this
    rw [show pow3 i * 3 = 3 * pow3 i from by omega, show (i : Int) + 1 = ((i + 1 : Nat) : Int) from by omega]
    exact this
theorem impl_power_f (k : Nat) (a : Int) (hk : 31 ≤ k) (ha : a ≤ 30) : impl_power.f k a = some (pow3 a.toNat) := by
  unfold impl_power.f
  by_cases h : 0 ≤ a
  · exact impl_power_l0 a ha a.toNat k 0 (by omega) (by omega)
  · obtain ⟨k, rfl⟩ : ∃ m, k = m + 1 := ⟨k - 1, by omega⟩
    simp only [impl_power.l0]
    rw [if_neg (by omega), show a.toNat = 0 from by omega]; rfl
theorem impl_LimitOf_f (k : Nat) (a : Int) (hk : 31 ≤ k) : impl_LimitOf.f k a = some (if 1 ≤ a ∧ a ≤ 30 then lim a.toNat else 0) := by
  unfold impl_LimitOf.f
  by_cases h1 : a < 1
  · rw [if_pos h1, if_neg (by omega)]
  · rw [if_neg h1]
    by_cases h2 : a > 30
    · rw [if_pos h2, if_neg (by omega)]
    · rw [if_neg h2, impl_power_f k a hk (by omega), if_pos (by omega)]
      have h3 := pow3_lim a.toNat
      have h4 := lim_nonneg a.toNat
      have h5 : lim a.toNat ≤ lim 30 := lim_mono (by omega)
      rw [lim30] at h5
      simp only [bsome]
      rw [w64 (pow3 _ - 1) (by omega) (by omega), h3, show 2 * lim a.toNat + 1 - 1 = 2 * lim a.toNat from by omega, Int.mul_tdiv_cancel_left _ (by omega), w64 _ (by omega) (by omega)]
theorem impl_fits_f (k : Nat) (n a : Int) (hk : 31 ≤ k) (h1 : 1 ≤ a) (h2 : a ≤ 30) : impl_fits.f k n a = some (decide (-lim a.toNat ≤ n ∧ n ≤ lim a.toNat)) := by
  unfold impl_fits.f
  have h4 := lim_nonneg a.toNat
  have h5 : lim a.toNat ≤ lim 30 := lim_mono (by omega)
  rw [lim30] at h5
  rw [impl_LimitOf_f k a hk, if_pos ⟨h1, h2⟩]
  simp only [bsome]
  rw [w64 _ (by omega) (by omega)]
  by_cases h : n ≥ -lim a.toNat
  · rw [if_pos h]; simp [show -lim a.toNat ≤ n from h]
  · rw [if_neg h]
    have : ¬ -lim a.toNat ≤ n := h
    simp [this]
theorem impl_carried_tmod (n : Int) : ∃ c, impl_carried.f (Int.tmod n 3) = some (low3 n, c) := by
  unfold impl_carried.f low3
  rcases Int.le_total 0 n with h | h
  · rw [tmod3_nonneg n h]
    split
    · rw [w64 _ (by omega) (by omega)]; exact ⟨1, by congr 2; omega⟩
    · rw [if_neg (by omega)]; exact ⟨0, by congr 2; omega⟩
  · have e2 := tmod3_nonpos n h
    rw [e2]
    split
    · omega
    · split
      · rw [w64 _ (by omega) (by omega)]; exact ⟨-1, by congr 2; omega⟩
      · exact ⟨0, by congr 2; omega⟩
theorem tdiv_low3 (n : Int) : Int.tdiv (n - low3 n) 3 = rest3 n := by
  have := low3_rest3 n
  rw [show n - low3 n = 3 * rest3 n from by omega, Int.mul_tdiv_cancel_left _ (by omega)]
theorem rest3_bd (n B : Int) (hB : 0 ≤ B) (h0 : -B ≤ n) (h1 : n ≤ B) : -B ≤ rest3 n ∧ rest3 n ≤ B := by unfold rest3; omega
theorem impl_WordOf_l0 (a : Int) (ha : a ≤ 30) : ∀ (d k i : Nat) (n : Int) (acc : List Int), (i : Int) + d = a → d < k → acc.length = i → -1000000000000000000 ≤ n → n ≤ 1000000000000000000 →
    impl_WordOf.l0 k n acc a (i : Int) = some (acc ++ word n d, true) := by
  intro d
  induction d with
  | zero =>
    intro k i n acc h hk hl h0 h1
    obtain ⟨k, rfl⟩ : ∃ m, k = m + 1 := ⟨k - 1, by omega⟩
    simp only [impl_WordOf.l0]
    rw [if_neg (by omega)]; simp [word]
  | succ d ih =>
    intro k i n acc h hk hl h0 h1
    obtain ⟨k, rfl⟩ : ∃ m, k = m + 1 := ⟨k - 1, by omega⟩
    obtain ⟨c, hc⟩ := impl_carried_tmod n
    have ht := low3_trit n
    unfold Trit at ht
    have hu := rest3_bd n 1000000000000000000 (by omega) (by omega) h1
    simp only [impl_WordOf.l0]
    rw [if_pos (by omega), hc]
    simp only [bsome]
    rw [if_pos (by omega), w64 (n - low3 n) (by omega) (by omega), tdiv_low3, w64 (rest3 n) (by omega) (by omega), w64 _ (by omega) (by omega), show (i : Int) + 1 = ((i + 1 : Nat) : Int) from by omega,
      ih k (i + 1) (rest3 n) (acc ++ [low3 n]) (by omega) (by omega) (by simp [hl]) hu.1 hu.2]
    simp [word]
theorem impl_WordOf_f (k : Nat) (n a : Int) (hk : 40 ≤ k) (ha : -9223372036854775808 ≤ a) : impl_WordOf.f k n a = some (wordOf n a) := by
  obtain ⟨k, rfl⟩ : ∃ m, k = m + 1 := ⟨k - 1, by omega⟩
  unfold impl_WordOf.f wordOf
  by_cases h1 : a < 1
  · rw [if_pos h1, if_neg (by omega)]; simp only [impl_WordOf.j0]; rfl
  · rw [if_neg h1]
    by_cases h2 : a > 30
    · rw [if_pos h2, if_neg (by omega)]; simp only [impl_WordOf.j0]; rfl
    · rw [if_neg h2, impl_fits_f _ n a (by omega) (by omega) (by omega)]
      simp only [bsome, impl_WordOf.j0]
      have h5 : lim a.toNat ≤ lim 30 := lim_mono (by omega)
      rw [lim30] at h5
      by_cases h : -lim a.toNat ≤ n ∧ n ≤ lim a.toNat
      · rw [if_neg (by simpa using h), if_pos ⟨by omega, by omega, h⟩]
        have := impl_WordOf_l0 a (by omega) a.toNat k 0 n [] (by omega) (by omega) rfl (by omega) (by omega)
        simpa using this
      · rw [if_pos (by rw [decide_eq_false h]; rfl), if_neg (fun hh => h hh.2.2)]
theorem spec_l2Word_l0 (a : Int) (ha : a ≤ 30) : ∀ (d k i : Nat) (n : Int) (acc : List Int), (i : Int) + d = a → d < k → acc.length = i → -1000000000000000000 ≤ n → n ≤ 1000000000000000000 →
    spec_l2Word.l0 k n a acc (i : Int) = some (acc ++ word n d) := by
  intro d
  induction d with
  | zero =>
    intro k i n acc h hk hl h0 h1
    obtain ⟨k, rfl⟩ : ∃ m, k = m + 1 := ⟨k - 1, by omega⟩
    simp only [spec_l2Word.l0]
    rw [if_neg (by omega)]; simp [word]
  | succ d ih =>
    intro k i n acc h hk hl h0 h1
    obtain ⟨k, rfl⟩ : ∃ m, k = m + 1 := ⟨k - 1, by omega⟩
    have ht := low3_trit n
    unfold Trit at ht
    have hu := rest3_bd n 1000000000000000000 (by omega) (by omega) h1
    have fin : spec_l2Word.l0 k (wrap64 (Int.tdiv (wrap64 (n - low3 n)) 3)) a (acc ++ [low3 n]) (wrap64 ((i : Int) + 1)) = some (acc ++ word n (d + 1)) := by
      rw [w64 (n - low3 n) (by omega) (by omega), tdiv_low3, w64 (rest3 n) (by omega) (by omega), w64 _ (by omega) (by omega), show (i : Int) + 1 = ((i + 1 : Nat) : Int) from by omega,
        ih k (i + 1) (rest3 n) (acc ++ [low3 n]) (by omega) (by omega) (by simp [hl]) hu.1 hu.2]
      simp [word]
    simp only [spec_l2Word.l0]
    rw [if_pos (by omega)]
    rcases Int.le_total 0 n with h | h
    · have e2 := tmod3_nonneg n h
      rw [e2]
      by_cases c : n % 3 > 1
      · rw [if_pos c, w64 (n % 3 - 3) (by omega) (by omega), if_neg (by omega), if_pos (by omega), show n % 3 - 3 = low3 n from by unfold low3; omega]
        exact fin
      · rw [if_neg c, if_neg (by omega), if_pos (by omega), show n % 3 = low3 n from by unfold low3; omega]
        exact fin
    · have e2 := tmod3_nonpos n h
      rw [e2, if_neg (by omega)]
      by_cases c : -((-n) % 3) < -1
      · rw [if_pos c, if_pos (by omega), w64 (-(-n % 3) + 3) (by omega) (by omega), show -(-n % 3) + 3 = low3 n from by unfold low3; omega]
        exact fin
      · rw [if_neg c, if_pos (by omega), show -(-n % 3) = low3 n from by unfold low3; omega]
        exact fin
theorem spec_l2Word_f (k : Nat) (n a : Int) (hk : 40 ≤ k) (ha0 : 0 ≤ a) (ha : a ≤ 30) (h0 : -1000000000000000000 ≤ n) (h1 : n ≤ 1000000000000000000) : spec_l2Word.f k n a = some (word n a.toNat) := by
  unfold spec_l2Word.f
  have := spec_l2Word_l0 a ha a.toNat k 0 n [] (by omega) (by omega) rfl h0 h1
  simpa using this
theorem laws_toIntS_l0 (l : List Int) (hl : l.length ≤ 2000000) : ∀ (d k i : Nat), i + d = l.length → d < k →
    laws_toIntS.l0 k l (l.take i ++ List.replicate d 0) (i : Int) = some l := by
  intro d
  induction d with
  | zero =>
    intro k i h hk
    obtain ⟨k, rfl⟩ : ∃ m, k = m + 1 := ⟨k - 1, by omega⟩
    simp only [laws_toIntS.l0]
    rw [if_neg (by omega)]; simp [List.take_of_length_le (show l.length ≤ i by omega)]
  | succ d ih =>
    intro k i h hk
    obtain ⟨k, rfl⟩ : ∃ m, k = m + 1 := ⟨k - 1, by omega⟩
    have hlen : (l.take i).length = i := by rw [List.length_take]; omega
    simp only [laws_toIntS.l0]
    rw [if_pos (by omega), if_pos (by omega), if_pos (by rw [List.length_append, List.length_replicate, hlen]; omega), w64 _ (by omega) (by omega)]
    have e : (l.take i ++ List.replicate (d + 1) (0 : Int)).set (i : Int).toNat (rd l (i : Int)) = l.take (i + 1) ++ List.replicate d 0 := by
      have h1 := set_append_len (l.take i) 0 (rd l (i : Int)) (List.replicate d 0)
      rw [hlen] at h1
      rw [Int.toNat_natCast, List.replicate_succ, h1, take_rd l i (by omega), List.append_assoc]; rfl
    rw [e, show (i : Int) + 1 = ((i + 1 : Nat) : Int) from by omega]
    exact ih k (i + 1) (by omega) (by omega)
theorem laws_toIntS_f (k : Nat) (l : List Int) (hk : 2000001 ≤ k) (hl : l.length ≤ 2000000) : laws_toIntS.f k l = some l := by
  unfold laws_toIntS.f
  rw [if_pos (by omega), if_pos (by omega)]
  have := laws_toIntS_l0 l hl l.length k 0 (by omega) (by omega)
  simpa using this
theorem laws_eqIntS_l0 (a b : List Int) (hl : a.length ≤ 2000000) (hb : a.length = b.length) : ∀ (d k i : Nat), i + d = a.length → d < k →
    laws_eqIntS.l0 k a b (i : Int) = some (decide (a.drop i = b.drop i)) := by
  intro d
  induction d with
  | zero =>
    intro k i h hk
    obtain ⟨k, rfl⟩ : ∃ m, k = m + 1 := ⟨k - 1, by omega⟩
    simp only [laws_eqIntS.l0]
    rw [if_neg (by omega), List.drop_eq_nil_of_le (by omega), List.drop_eq_nil_of_le (by omega)]; simp
  | succ d ih =>
    intro k i h hk
    obtain ⟨k, rfl⟩ : ∃ m, k = m + 1 := ⟨k - 1, by omega⟩
    simp only [laws_eqIntS.l0]
    rw [if_pos (by omega), if_pos (by omega), if_pos (by omega), drop_rd a i (by omega), drop_rd b i (by omega), w64 _ (by omega) (by omega)]
    by_cases c : rd a (i : Int) = rd b (i : Int)
    · rw [if_pos c, show (i : Int) + 1 = ((i + 1 : Nat) : Int) from by omega, ih k (i + 1) (by omega) (by omega)]
      simp [c]
    · rw [if_neg c]; simp [c]
theorem laws_eqIntS_f (k : Nat) (a b : List Int) (hk : 2000001 ≤ k) (hl : a.length ≤ 2000000) : laws_eqIntS.f k a b = some (decide (a = b)) := by
  unfold laws_eqIntS.f
  by_cases h : a.length = b.length
  · rw [if_pos (by omega)]
    have := laws_eqIntS_l0 a b hl h a.length k 0 (by omega) (by omega)
    simpa using this
  · rw [if_neg (by omega)]
    have : a ≠ b := fun e => h (by rw [e])
    simp [this]
theorem laws_markIntS_l0 : ∀ (rest pre : List Int) (k : Nat) (m : Int), (pre ++ rest).length ≤ 2000000 → rest.length < k → 0 ≤ m → m ≤ 1000000000000 → m + rest.length ≤ 1000000000000 →
    laws_markIntS.l0 k (pre ++ rest) m (pre.length : Int) = some (m + rest.length, pre ++ marks m rest.length) := by
  intro rest
  induction rest with
  | nil =>
    intro pre k m hl hk h0 h1 h2
    obtain ⟨k, rfl⟩ : ∃ m, k = m + 1 := ⟨k - 1, by simp only [List.length_nil] at hk; omega⟩
    simp only [laws_markIntS.l0]
    rw [if_neg (by simp)]; simp [marks]
  | cons x rest ih =>
    intro pre k m hl hk h0 h1 h2
    simp only [List.length_cons, List.length_append] at *
    obtain ⟨k, rfl⟩ : ∃ m, k = m + 1 := ⟨k - 1, by omega⟩
    simp only [laws_markIntS.l0]
    rw [if_pos (by simp only [List.length_append, List.length_cons]; omega), if_pos (by omega), Int.toNat_natCast, set_append_len, w64 _ (by omega) (by omega), w64 _ (by omega) (by omega)]
    have := ih (pre ++ [m]) k (m + 1) (by simp; omega) (by omega) (by omega) (by omega) (by omega)
    simp only [List.append_assoc, List.singleton_append, List.length_append, List.length_singleton] at this
    rw [show (pre.length : Int) + 1 = ((pre.length + 1 : Nat) : Int) from by omega, this]
    simp [marks]; omega
theorem laws_markIntS_f (k : Nat) (l : List Int) (m : Int) (hk : 2000001 ≤ k) (hl : l.length ≤ 2000000) (h0 : 0 ≤ m) (h1 : m ≤ 10000000000) : laws_markIntS.f k l m = some (m + l.length, marks m l.length) := by
  unfold laws_markIntS.f
  have := laws_markIntS_l0 l [] k m (by simpa using hl) (by omega) h0 (by omega) (by omega)
  simpa using this
theorem laws_heldIntS_l0 (l : List Int) (hl : l.length ≤ 2000000) : ∀ (d k i : Nat) (m : Int), i + d = l.length → d < k → 0 ≤ m → m + d ≤ 1000000000000 →
    laws_heldIntS.l0 k l m (i : Int) = some (if l.drop i = marks m d then m + d else -1) := by
  intro d
  induction d with
  | zero =>
    intro k i m h hk h0 h1
    obtain ⟨k, rfl⟩ : ∃ m, k = m + 1 := ⟨k - 1, by omega⟩
    simp only [laws_heldIntS.l0]
    rw [if_neg (by omega), List.drop_eq_nil_of_le (by omega)]; simp [marks]
  | succ d ih =>
    intro k i m h hk h0 h1
    obtain ⟨k, rfl⟩ : ∃ m, k = m + 1 := ⟨k - 1, by omega⟩
    simp only [laws_heldIntS.l0]
    rw [if_pos (by omega), if_pos (by omega), drop_rd l i (by omega), w64 _ (by omega) (by omega), w64 _ (by omega) (by omega)]
    simp only [marks, List.cons.injEq]
    by_cases c : rd l (i : Int) = m
    · rw [if_pos c, show (i : Int) + 1 = ((i + 1 : Nat) : Int) from by omega, ih k (i + 1) (m + 1) (by omega) (by omega) (by omega) (by omega)]
      simp only [c, true_and]
      split
      · congr 1; omega
      · rfl
    · rw [if_neg c, if_neg (fun hh => c hh.1)]
theorem laws_heldIntS_f (k : Nat) (l : List Int) (m : Int) (hk : 2000001 ≤ k) (hl : l.length ≤ 2000000) (h0 : 0 ≤ m) (h1 : m ≤ 10000000000) : laws_heldIntS.f k l m = some (if l = marks m l.length then m + l.length else -1) := by
  unfold laws_heldIntS.f
  have := laws_heldIntS_l0 l hl l.length k 0 m (by omega) (by omega) h0 (by omega)
  simpa using this
theorem laws_heldIntS_marks (k : Nat) (m : Int) (n : Nat) (hk : 2000001 ≤ k) (hl : n ≤ 2000000) (h0 : 0 ≤ m) (h1 : m ≤ 10000000000) : laws_heldIntS.f k (marks m n) m = some (m + n) := by
  rw [laws_heldIntS_f k (marks m n) m hk (by rw [length_marks]; exact hl) h0 h1, length_marks, if_pos rfl]
theorem mx_abs (d : Int) (h : -9223372036854775807 ≤ d) (h1 : d ≤ 9223372036854775807) : mx d (wrap64 (-d)) = abs3 d := by
  rw [w64 _ (by omega) (by omega)]
  unfold mx abs3
  split
  · rw [if_pos (by omega)]
  · split <;> omega
theorem impl_size_f (d : Int) (h : -9223372036854775807 ≤ d) (h1 : d ≤ 9223372036854775807) : impl_size.f d = some (abs3 d) := by
  unfold impl_size.f
  rw [mx_abs d h h1]
theorem spec_l4Abs_f (d : Int) (h : -9223372036854775807 ≤ d) (h1 : d ≤ 9223372036854775807) : spec_l4Abs.f d = some (abs3 d) := by
  unfold spec_l4Abs.f
  rw [mx_abs d h h1]
theorem abs3_le {d B : Int} (h : -B ≤ d) (h1 : d ≤ B) : abs3 d ≤ B := by unfold abs3; split <;> omega
theorem spec_LimitOf_l0 (a : Int) (ha : a ≤ 30) : ∀ (d k i : Nat), (i : Int) + d = a → d < k → spec_LimitOf.l0 k a (lim i) (i : Int) = some (lim a.toNat) := by
  intro d
  induction d with
  | zero =>
    intro k i h hk
    obtain ⟨k, rfl⟩ : ∃ m, k = m + 1 := ⟨k - 1, by omega⟩
    simp only [spec_LimitOf.l0]
    rw [if_neg (by omega), show a.toNat = i from by omega]
  | succ d ih =>
    intro k i h hk
    obtain ⟨k, rfl⟩ : ∃ m, k = m + 1 := ⟨k - 1, by omega⟩
    have h1 := lim_nonneg i
    have h2 : lim i ≤ lim 30 := lim_mono (by omega)
    rw [lim30] at h2
    simp only [spec_LimitOf.l0]
    rw [if_pos (by omega), w64 (3 * lim i) (by omega) (by omega), w64 _ (by omega) (by omega), w64 _ (by omega) (by omega), show (i : Int) + 1 = ((i + 1 : Nat) : Int) from by omega]
    exact ih k (i + 1) (by omega) (by omega)
theorem spec_LimitOf_f (k : Nat) (a : Int) (hk : 31 ≤ k) : spec_LimitOf.f k a = some (if 1 ≤ a ∧ a ≤ 30 then lim a.toNat else 0) := by
  unfold spec_LimitOf.f
  rw [spec_l1In_f, bsome]
  by_cases h : 1 ≤ a ∧ a ≤ 30
  · rw [if_pos (by simpa using h), if_pos h]
    exact spec_LimitOf_l0 a (by omega) a.toNat k 0 (by omega) (by omega)
  · rw [if_neg (by simpa using h), if_neg h]
theorem spec_WordOf_f (k : Nat) (n a : Int) (hk : 40 ≤ k) : spec_WordOf.f k n a = some (wordOf n a) := by
  unfold spec_WordOf.f wordOf
  rw [spec_l1In_f, bsome]
  by_cases h : 1 ≤ a ∧ a ≤ 30
  · have h1 := lim_nonneg a.toNat
    have h2 : lim a.toNat ≤ lim 30 := lim_mono (by omega)
    rw [lim30] at h2
    rw [if_pos (by simpa using h), spec_LimitOf_f k a (by omega), if_pos h, bsome, bsome, w64 _ (by omega) (by omega), spec_l1In_f, bsome]
    by_cases h3 : -lim a.toNat ≤ n ∧ n ≤ lim a.toNat
    · rw [if_pos (by simpa using h3), if_pos ⟨h.1, h.2, h3⟩, spec_l2Word_f k n a hk (by omega) (by omega) (by omega) (by omega), bsome]
    · rw [if_neg (by rw [decide_eq_false h3]; decide), if_neg (fun hh => h3 hh.2.2)]
  · rw [if_neg (by rw [decide_eq_false h]; decide), if_neg (fun hh => h ⟨hh.1, hh.2.1⟩)]
theorem abs3_nat (d : Int) : abs3 d = (d.natAbs : Int) := by unfold abs3; split <;> omega
theorem abs3_mul (a b : Int) : abs3 (a * b) = abs3 a * abs3 b := by
  rw [abs3_nat, abs3_nat, abs3_nat, Int.natAbs_mul, Int.natCast_mul]
theorem pw_big (v L : Int) (hL : 0 ≤ L) (m : Nat) (hm : L < abs3 (v ^ (m + 1))) : ∀ e : Nat, L < abs3 (v ^ (m + 1 + e)) := by
  have hv : 1 ≤ abs3 v := by
    by_cases h : v = 0
    · subst h
      rw [Int.pow_succ, Int.mul_zero] at hm
      simp [abs3] at hm; omega
    · have := abs3_pos h; omega
  intro e
  induction e with
  | zero => exact hm
  | succ e ih =>
    rw [← Nat.add_assoc, Int.pow_succ, abs3_mul]
    have := Int.mul_le_mul_of_nonneg_left hv (abs3_nonneg (v ^ (m + 1 + e)))
    omega
theorem pw_step {c a L : Int} (hL : 0 ≤ L) (ha : 0 < a) : (c > Int.tdiv L a) = (L < c * a) := by
  rw [Int.tdiv_eq_ediv_of_nonneg hL]
  exact propext (Int.ediv_lt_iff_lt_mul ha)
theorem pw_div {a L : Int} (hL : 0 ≤ L) (ha : 0 < a) : 0 ≤ Int.tdiv L a ∧ Int.tdiv L a ≤ L := by
  rw [Int.tdiv_eq_ediv_of_nonneg hL]
  exact ⟨Int.ediv_nonneg hL (by omega), Int.ediv_le_self a hL⟩
theorem limit30 (k : Nat) (hk : 31 ≤ k) : impl_LimitOf.f k 30 = some 102945566047324 := by
  rw [impl_LimitOf_f k 30 hk, if_pos (by omega)]
  exact congrArg some lim30
theorem slimit30 (k : Nat) (hk : 31 ≤ k) : spec_LimitOf.f k 30 = some 102945566047324 := by
  rw [spec_LimitOf_f k 30 hk, if_pos (by omega)]
  exact congrArg some lim30
theorem abs3_bd {d B : Int} (h : abs3 d ≤ B) : -B ≤ d ∧ d ≤ B := by unfold abs3 at h; split at h <;> omega
theorem impl_product_f (k : Nat) (r v : Int) (hk : 31 ≤ k) (hr : abs3 r ≤ 102945566047324) (hv : abs3 v ≤ 102945566047324) : impl_product.f k r v = some (if abs3 (r * v) ≤ 102945566047324 then (r * v, true) else (0, false)) := by
  unfold impl_product.f
  have br := abs3_bd hr
  have bv := abs3_bd hv
  rw [limit30 k hk, bsome]
  by_cases h0 : r = 0
  · subst h0
    rw [if_pos rfl, Int.zero_mul, w64 0 (by omega) (by omega), if_pos (by simp [abs3])]
  · have hp := abs3_pos h0
    have hd := pw_div (L := 102945566047324) (by omega) hp
    rw [if_neg h0, impl_size_f v (by omega) (by omega), bsome, impl_size_f r (by omega) (by omega), bsome, if_neg (by omega), w64 (Int.tdiv _ _) (by omega) (by omega)]
    simp only [pw_step (L := 102945566047324) (by omega) hp]
    rw [abs3_mul, Int.mul_comm (abs3 r)]
    by_cases h : 102945566047324 < abs3 v * abs3 r
    · rw [if_pos h, if_neg (by omega)]
    · have hb : abs3 (r * v) ≤ 102945566047324 := by rw [abs3_mul, Int.mul_comm (abs3 r)]; omega
      have := abs3_bd hb
      rw [if_neg h, if_pos (by omega), w64 _ (by omega) (by omega)]
def pw (v : Int) (n : Nat) : List Int × Bool := if abs3 (v ^ n) ≤ 102945566047324 then (word (v ^ n) 30, true) else ([], false)
theorem pw_len (v : Int) (n : Nat) : (pw v n).1.length ≤ 30 := by
  unfold pw
  by_cases h : abs3 (v ^ n) ≤ 102945566047324
  · rw [if_pos h]; simp only; rw [length_word]; omega
  · rw [if_neg h]; simp
theorem pw_word (r : Int) (hr : abs3 r ≤ 102945566047324) : wordOf r 30 = (word r 30, true) := by
  have b := abs3_bd hr
  have e : lim (30 : Int).toNat = 102945566047324 := lim30
  exact wordOf_yes (by omega) (by omega) (by rw [e]; omega) (by rw [e]; omega)
theorem impl_PowerWord_l0 (v : Int) (hv : abs3 v ≤ 102945566047324) (n : Int) (hn : n ≤ 9223372036854775807) : ∀ (d k i : Nat) (r : Int), d + 60 < k → (i : Int) ≤ n → r = v ^ i → abs3 r ≤ 102945566047324 →
    (n ≤ (i : Int) + d ∨ 2 ≤ abs3 v ∧ 102945566047324 < 2 ^ d * abs3 r) → impl_PowerWord.l0 k v r n (i : Int) = some (pw v n.toNat) := by
  intro d
  induction d with
  | zero =>
    intro k i r hk hi hr hb h
    obtain ⟨k, rfl⟩ : ∃ m, k = m + 1 := ⟨k - 1, by omega⟩
    have hin : n = i := by
      rcases h with h | h
      · omega
      · have := h.2; simp at this; omega
    subst hin
    rw [impl_PowerWord.l0, if_neg (by omega), impl_WordOf_f _ _ _ (by omega) (by omega), bsome, pw_word r hb]
    unfold pw
    rw [show ((i : Int)).toNat = i from by omega, ← hr, if_pos hb]
  | succ d ih =>
    intro k i r hk hi hr hb h
    obtain ⟨k, rfl⟩ : ∃ m, k = m + 1 := ⟨k - 1, by omega⟩
    rw [impl_PowerWord.l0]
    by_cases hc : (i : Int) < n
    · rw [if_pos hc, impl_product_f k r v (by omega) hb hv, bsome]
      have he : r * v = v ^ (i + 1) := by rw [hr, Int.pow_succ]
      by_cases hf : abs3 (r * v) ≤ 102945566047324
      · rw [if_pos hf, if_pos rfl, w64 _ (by omega) (by omega), show ((i : Int) + 1) = ((i + 1 : Nat) : Int) from by omega]
        refine ih k (i + 1) _ (by omega) (by omega) he hf ?_
        rcases h with h | h
        · left; omega
        · right
          refine ⟨h.1, ?_⟩
          have h2 := h.2
          rw [abs3_mul]
          rw [Int.pow_succ, Int.mul_assoc] at h2
          have := Int.mul_le_mul_of_nonneg_left h.1 (abs3_nonneg r)
          have p2 : (0 : Int) ≤ 2 ^ d := Int.le_of_lt (Int.pow_pos (by omega))
          have := Int.mul_le_mul_of_nonneg_left (show 2 * abs3 r ≤ abs3 r * abs3 v by omega) p2
          omega
      · rw [if_neg hf, if_neg (by simp)]
        rw [he] at hf
        have := pw_big v 102945566047324 (by omega) i (by omega) (n.toNat - (i + 1))
        rw [show i + 1 + (n.toNat - (i + 1)) = n.toNat from by omega] at this
        unfold pw
        rw [if_neg (by omega)]
    · rw [if_neg hc, impl_WordOf_f _ _ _ (by omega) (by omega), bsome, pw_word r hb]
      unfold pw
      rw [show n.toNat = i from by omega, ← hr, if_pos hb]
theorem negone_pow (m : Nat) : (-1 : Int) ^ m = 1 - 2 * ((m % 2 : Nat) : Int) := by
  induction m with
  | zero => rfl
  | succ m ih => rw [Int.pow_succ, ih]; omega
theorem small_pow (v : Int) (hv : abs3 v ≤ 1) (n m : Nat) (h : n % 2 = m % 2) (hn : 1 ≤ n) (hm : 1 ≤ m) : v ^ n = v ^ m := by
  have b := abs3_bd hv
  have : v = -1 ∨ v = 0 ∨ v = 1 := by omega
  rcases this with rfl | rfl | rfl
  · rw [negone_pow, negone_pow, h]
  · rw [Int.zero_pow (by omega), Int.zero_pow (by omega)]
  · rw [Int.one_pow, Int.one_pow]
def powOf (w : List Int) (n : Int) : List Int × Bool := if Word w ∧ 0 ≤ n then pw (val w) n.toNat else ([], false)
theorem powOf_len (w : List Int) (n : Int) : (powOf w n).1.length ≤ 30 := by
  unfold powOf
  by_cases h : Word w ∧ 0 ≤ n
  · rw [if_pos h]; exact pw_len _ _
  · rw [if_neg h]; simp
theorem val_abs {w : List Int} (h : Word w) : abs3 (val w) ≤ 102945566047324 := by
  have b := h.bd
  rw [lim30] at b
  exact abs3_le (by omega) b.2
theorem impl_PowerWord_f (k : Nat) (w : List Int) (n : Int) (hk : 3000000 ≤ k) (hw : w.length ≤ 2000000) (hn : n ≤ 9223372036854775807) : impl_PowerWord.f k w n = some (powOf w n) := by
  obtain ⟨k, rfl⟩ : ∃ m, k = m + 3 := ⟨k - 3, by omega⟩
  unfold impl_PowerWord.f powOf
  rw [impl_IsWord_f _ w (by omega) hw, bsome]
  by_cases h : Word w
  · rw [if_pos (by simpa using h), impl_PowerWord.j0]
    by_cases h0 : n < 0
    · rw [if_pos (by simpa using h0), if_neg (fun z => by omega)]
    · have ha := val_abs h
      have hb := abs3_bd ha
      rw [if_neg (by simpa using h0), if_pos ⟨h, by omega⟩, impl_value_f _ w (by omega) h.2.1 h.2.2.digs, bsome, impl_size_f _ (by omega) (by omega), bsome]
      by_cases h1 : abs3 (val w) ≤ 1
      · rw [if_pos h1, impl_PowerWord.j1]
        by_cases h2 : n > 2
        · have ht : Int.tmod n 2 = n % 2 := Int.tmod_eq_emod_of_nonneg (by omega)
          rw [if_pos (by simpa using h2), ht, w64 _ (by omega) (by omega), impl_PowerWord.j2]
          have := impl_PowerWord_l0 (val w) ha (2 + n % 2) (by omega) 3 k 0 1 (by omega) (by omega) (by simp) (by simp [abs3]) (Or.inl (by omega))
          rw [show ((0 : Nat) : Int) = 0 from rfl] at this
          rw [this]
          unfold pw
          rw [small_pow (val w) h1 (2 + n % 2).toNat n.toNat (by omega) (by omega) (by omega)]
        · rw [if_neg (by simpa using h2), impl_PowerWord.j2]
          have := impl_PowerWord_l0 (val w) ha n (by omega) 3 k 0 1 (by omega) (by omega) (by simp) (by simp [abs3]) (Or.inl (by omega))
          rw [show ((0 : Nat) : Int) = 0 from rfl] at this
          exact this
      · rw [if_neg h1, impl_PowerWord.j1, if_neg (by simp), impl_PowerWord.j2]
        have := impl_PowerWord_l0 (val w) ha n (by omega) 60 k 0 1 (by omega) (by omega) (by simp) (by simp [abs3]) (Or.inr ⟨by omega, by simp [abs3]⟩)
        rw [show ((0 : Nat) : Int) = 0 from rfl] at this
        exact this
  · rw [if_neg (by simpa using h), impl_PowerWord.j0, if_pos rfl, if_neg (fun z => h z.1)]
theorem spec_PowerWord_l0 (v : Int) (hv : abs3 v ≤ 102945566047324) (hv2 : 2 ≤ abs3 v) (n : Int) (hn : n ≤ 9223372036854775807) : ∀ (d k i : Nat) (r : Int), d + 60 < k → (i : Int) ≤ n → r = v ^ i → abs3 r ≤ 102945566047324 →
    (102945566047324 < 2 ^ d * abs3 r) → spec_PowerWord.l0 k n v r (i : Int) = some (pw v n.toNat) := by
  intro d
  induction d with
  | zero =>
    intro k i r hk hi hr hb h
    simp at h; omega
  | succ d ih =>
    intro k i r hk hi hr hb h
    obtain ⟨k, rfl⟩ : ∃ m, k = m + 1 := ⟨k - 1, by omega⟩
    have br := abs3_bd hb
    have bv := abs3_bd hv
    have hd := pw_div (L := 102945566047324) (a := abs3 v) (by omega) (by omega)
    rw [spec_PowerWord.l0]
    by_cases hc : (i : Int) < n
    · rw [if_pos hc, spec_l4Abs_f r (by omega) (by omega), bsome, slimit30 k (by omega), bsome, spec_l4Abs_f v (by omega) (by omega), bsome, if_neg (by omega), w64 (Int.tdiv _ _) (by omega) (by omega)]
      simp only [pw_step (L := 102945566047324) (a := abs3 v) (by omega) (by omega)]
      have he : r * v = v ^ (i + 1) := by rw [hr, Int.pow_succ]
      have hm : abs3 (r * v) = abs3 r * abs3 v := abs3_mul r v
      by_cases hf : 102945566047324 < abs3 r * abs3 v
      · rw [if_pos hf]
        have := pw_big v 102945566047324 (by omega) i (by rw [← he]; omega) (n.toNat - (i + 1))
        rw [show i + 1 + (n.toNat - (i + 1)) = n.toNat from by omega] at this
        unfold pw
        rw [if_neg (by omega)]
      · have hb2 : abs3 (r * v) ≤ 102945566047324 := by omega
        have := abs3_bd hb2
        rw [if_neg hf, w64 (r * v) (by omega) (by omega), w64 _ (by omega) (by omega), show ((i : Int) + 1) = ((i + 1 : Nat) : Int) from by omega]
        refine ih k (i + 1) _ (by omega) (by omega) he hb2 ?_
        rw [abs3_mul]
        rw [Int.pow_succ, Int.mul_assoc] at h
        have := Int.mul_le_mul_of_nonneg_left hv2 (abs3_nonneg r)
        have p2 : (0 : Int) ≤ 2 ^ d := Int.le_of_lt (Int.pow_pos (by omega))
        have := Int.mul_le_mul_of_nonneg_left (show 2 * abs3 r ≤ abs3 r * abs3 v by omega) p2
        omega
    · rw [if_neg hc, spec_WordOf_f _ _ _ (by omega), bsome, pw_word r hb]
      unfold pw
      rw [show n.toNat = i from by omega, ← hr, if_pos hb]
theorem spec_PowerWord_f (k : Nat) (w : List Int) (n : Int) (hk : 3000000 ≤ k) (hw : w.length ≤ 2000000) (hn : n ≤ 9223372036854775807) : spec_PowerWord.f k w n = some (powOf w n) := by
  obtain ⟨k, rfl⟩ : ∃ m, k = m + 3 := ⟨k - 3, by omega⟩
  unfold spec_PowerWord.f powOf
  rw [spec_IsWord_f _ w (by omega) hw, bsome]
  by_cases h : Word w
  · rw [if_pos (by simpa using h), spec_PowerWord.j0]
    by_cases h0 : n < 0
    · rw [if_pos (by simpa using h0), if_neg (fun z => by omega)]
    · have ha := val_abs h
      have hb := abs3_bd ha
      have hw0 : Word w ∧ 0 ≤ n := ⟨h, by omega⟩
      rw [if_neg (by simpa using h0), if_pos hw0, spec_l2Value_f _ w (by omega) h.2.1 h.2.2.digs, bsome, spec_l4Abs_f _ (by omega) (by omega), bsome]
      have ht : Int.tmod n 2 = n % 2 := Int.tmod_eq_emod_of_nonneg (by omega)
      have one : wordOf 1 30 = pw (val w) 0 := by rw [pw_word 1 (by simp [abs3])]; unfold pw; rw [Int.pow_zero, if_pos (by simp [abs3])]
      by_cases h1 : abs3 (val w) < 2
      · rw [if_pos h1]
        have b1 := abs3_bd (show abs3 (val w) ≤ 1 by omega)
        by_cases h2 : val w = -1
        · rw [if_pos h2]
          by_cases h3 : n = 0
          · rw [if_pos h3, spec_WordOf_f _ _ _ (by omega), bsome, one, h3]; rfl
          · rw [if_neg h3, ht, w64 (2 * (n % 2)) (by omega) (by omega), w64 _ (by omega) (by omega), spec_WordOf_f _ _ _ (by omega), bsome]
            have hp : val w ^ n.toNat = 1 - 2 * (n % 2) := by rw [h2, negone_pow]; omega
            have hq : abs3 (1 - 2 * (n % 2)) ≤ 102945566047324 := abs3_le (by omega) (by omega)
            unfold pw
            rw [hp, pw_word _ hq, if_pos hq]
        · rw [if_neg h2]
          by_cases h3 : n = 0
          · rw [if_pos h3, spec_WordOf_f _ _ _ (by omega), bsome, one, h3]; rfl
          · rw [if_neg h3, spec_WordOf_f _ _ _ (by omega), bsome]
            have hp : val w ^ n.toNat = val w := by
              have : val w = 0 ∨ val w = 1 := by omega
              rcases this with e | e
              · rw [e, Int.zero_pow (by omega)]
              · rw [e, Int.one_pow]
            unfold pw
            rw [hp, pw_word _ ha, if_pos ha]
      · rw [if_neg h1]
        have := spec_PowerWord_l0 (val w) ha (by omega) n (by omega) 60 (k + 2) 0 1 (by omega) (by omega) (by simp) (by simp [abs3]) (by simp [abs3])
        rw [show ((0 : Nat) : Int) = 0 from rfl] at this
        exact this
  · rw [if_neg (by simpa using h), spec_PowerWord.j0, if_pos rfl, if_neg (fun z => h z.1)]
end FnExactPowerWordParts
open FnExactPowerWordParts
attribute [local congr] bind_left

theorem FnExactPowerWord : laws_FnExactPowerWord.Pure := by
  intro l0 n _ _ _ hn
  have hn' := wf64 hn
  obtain ⟨K, hK⟩ : ∃ K, 100000000 ≤ K := ⟨_, Nat.le_refl _⟩
  refine ⟨K + 4, ?_⟩
  unfold laws_FnExactPowerWord.f
  by_cases h0 : (l0.length : Int) > 1048576
  · rw [if_pos h0]
  have f := fun k (hk : 3000000 ≤ k) => impl_PowerWord_f k l0 n hk (by omega) hn'.2
  have g := fun k (hk : 3000000 ≤ k) => spec_PowerWord_f k l0 n hk (by omega) hn'.2
  have hm := powOf_len l0 n
  generalize powOf l0 n = r at *
  simp (disch := omega) only [↓if_pos, ↓if_neg, ↓reduceIte, bsome, decide_true, bne_self_eq_false, Bool.false_eq_true, laws_toIntS_f, f, g, laws_eqIntS_f, laws_markIntS_f, laws_heldIntS_marks, laws_FnExactPowerWord.j0, laws_FnExactPowerWord.j1, laws_FnExactPowerWord.j2]

end Go.Proofs.Ytcgfcnpiekcofaa.Pure
