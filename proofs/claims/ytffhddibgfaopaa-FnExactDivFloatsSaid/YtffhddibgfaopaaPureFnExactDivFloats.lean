/- For all floating numbers the program's DivFloats gives what the reference gives, changes no argument, and shares no memory; no condition. -/
import Derived.Test.YtffhddibgfaopaaPSa7
import Derived.Test.YtffhddibgfaopaaGlue
namespace Go.Proofs.Ytffhddibgfaopaa.Pure
open Go.RowKit Go.Proofs.Ytffhddibgfaopaa.Tern Go.Proofs.Ytffhddibgfaopaa.P Go.Proofs.YtffhddibgfaopaaW.PrintWords Go.Proofs.YtffhddibgfaopaaW.PrintLast
set_option linter.unusedVariables false
set_option linter.unusedSimpArgs false

namespace FnExactDivFloatsParts
theorem impl_IsTrit_f (a : Int) : impl_IsTrit.f a = some (decide (Trit a)) := by
  unfold impl_IsTrit.f Trit
  split
  · rename_i h
    simp [show -1 ≤ a from h]
  · rename_i h
    have : ¬ (-1 ≤ a) := h
    simp [this]
theorem spec_IsTrit_f (a : Int) : spec_IsTrit.f a = some (decide (Trit a)) := by
  unfold spec_IsTrit.f spec_l1In.f Trit
  split
  · rename_i h
    simp [show -1 ≤ a from h]
  · rename_i h
    have : ¬ (-1 ≤ a) := h
    simp [this]
theorem spec_l1In_f (x a b : Int) : spec_l1In.f x a b = some (decide (a ≤ x ∧ x ≤ b)) := by
  unfold spec_l1In.f
  split
  · rename_i h
    simp [show a ≤ x from h]
  · rename_i h
    have : ¬ (a ≤ x) := h
    simp [this]
theorem impl_trits_l0 (l : List Int) (hl : l.length ≤ 2000000) : ∀ (d k i : Nat), i + d = l.length → d < k →
    impl_trits.l0 k l (l.length : Int) (i : Int) = some (decide (Trits (l.drop i))) := by
  intro d
  induction d with
  | zero =>
    intro k i h hk
    obtain ⟨k, rfl⟩ : ∃ m, k = m + 1 := ⟨k - 1, by omega⟩
    simp only [impl_trits.l0]
    rw [if_neg (by omega), List.drop_eq_nil_of_le (by omega)]
    simp [Trits.nil]
  | succ d ih =>
    intro k i h hk
    obtain ⟨k, rfl⟩ : ∃ m, k = m + 1 := ⟨k - 1, by omega⟩
    simp only [impl_trits.l0]
    rw [if_pos (by omega), if_pos (by omega), if_pos (by omega), impl_IsTrit_f, drop_rd l i (by omega)]
    simp only [bsome, Trits.cons]
    by_cases ht : Trit (rd l (i : Int))
    · rw [if_pos (by simpa using ht), w64 _ (by omega) (by omega)]
      have := ih k (i + 1) (by omega) (by omega)
      rw [show ((i + 1 : Nat) : Int) = (i : Int) + 1 from by omega] at this
      rw [this]; simp [ht]
    · rw [if_neg (by simpa using ht)]; simp [ht]
theorem impl_trits_f (k : Nat) (l : List Int) (hk : 2000001 ≤ k) (hl : l.length ≤ 2000000) : impl_trits.f k l = some (decide (Trits l)) := by
  unfold impl_trits.f
  have := impl_trits_l0 l hl l.length k 0 (by omega) (by omega)
  simpa using this
theorem spec_IsWord_l0 (l : List Int) (hl : l.length ≤ 2000000) : ∀ (d k i : Nat), i + d = l.length → d < k →
    spec_IsWord.l0 k l l (l.length : Int) (i : Int) = some (decide (1 ≤ l.length ∧ l.length ≤ 30 ∧ Trits (l.drop i))) := by
  intro d
  induction d with
  | zero =>
    intro k i h hk
    obtain ⟨k, rfl⟩ : ∃ m, k = m + 1 := ⟨k - 1, by omega⟩
    simp only [spec_IsWord.l0]
    rw [if_neg (by omega), List.drop_eq_nil_of_le (by omega), spec_l1In_f]
    have e : (1 ≤ (l.length : Int) ∧ (l.length : Int) ≤ 30) = (1 ≤ l.length ∧ l.length ≤ 30) := by apply propext; omega
    simp [Trits.nil, e]
  | succ d ih =>
    intro k i h hk
    obtain ⟨k, rfl⟩ : ∃ m, k = m + 1 := ⟨k - 1, by omega⟩
    simp only [spec_IsWord.l0]
    rw [if_pos (by omega), if_pos (by omega), if_pos (by omega), spec_IsTrit_f, drop_rd l i (by omega)]
    simp only [bsome, Trits.cons]
    by_cases ht : Trit (rd l (i : Int))
    · rw [if_pos (by simpa using ht), w64 _ (by omega) (by omega)]
      have := ih k (i + 1) (by omega) (by omega)
      rw [show ((i + 1 : Nat) : Int) = (i : Int) + 1 from by omega] at this
      rw [this]; simp [ht]
    · rw [if_neg (by simpa using ht)]; simp [ht]
theorem spec_IsWord_f (k : Nat) (l : List Int) (hk : 2000001 ≤ k) (hl : l.length ≤ 2000000) : spec_IsWord.f k l = some (decide (Word l)) := by
  unfold spec_IsWord.f Word
  exact spec_IsWord_l0 l hl l.length k 0 (by omega) (by omega)
theorem impl_value_l0 (l : List Int) (hl : l.length ≤ 30) (hb : Digs l) : ∀ (n k : Nat) (x : Int), n ≤ l.length → n < k → x = (n : Int) - 1 →
    impl_value.l0 k l (val (l.drop n)) x = some (val l) := by
  intro n
  induction n with
  | zero =>
    intro k x h hk hx
    obtain ⟨k, rfl⟩ : ∃ m, k = m + 1 := ⟨k - 1, by omega⟩
    simp only [impl_value.l0]
    rw [if_neg (by omega), List.drop_zero]
  | succ n ih =>
    intro k x h hk hx
    obtain ⟨k, rfl⟩ : ∃ m, k = m + 1 := ⟨k - 1, by omega⟩
    obtain rfl : x = (n : Int) := by omega
    have b1 := val_drop_bd l hl hb (n + 1)
    have b2 := hb _ (rd_mem l n (by omega))
    simp only [impl_value.l0]
    rw [if_pos (by omega), if_pos (by omega), if_pos (by omega), w64 (3 * _) (by omega) (by omega), w64 _ (by omega) (by omega), w64 _ (by omega) (by omega)]
    have e : val (l.drop n) = 3 * val (l.drop (n + 1)) + rd l (n : Int) := by rw [drop_rd l n (by omega)]; simp only [val]; omega
    rw [← e]
    exact ih k _ (by omega) (by omega) rfl
theorem impl_value_f (k : Nat) (l : List Int) (hk : 31 ≤ k) (hl : l.length ≤ 30) (hb : Digs l) : impl_value.f k l = some (val l) := by
  unfold impl_value.f
  have := impl_value_l0 l hl hb l.length k (wrap64 ((l.length : Int) - 1)) (Nat.le_refl _) (by omega) (w64 _ (by omega) (by omega))
  rw [List.drop_length] at this
  exact this
theorem spec_l2Value_l0 (l : List Int) (hl : l.length ≤ 30) (hb : Digs l) : ∀ (n k : Nat) (x : Int), n ≤ l.length → n < k → x = (n : Int) - 1 →
    spec_l2Value.l0 k l (val (l.drop n)) x = some (val l) := by
  intro n
  induction n with
  | zero =>
    intro k x h hk hx
    obtain ⟨k, rfl⟩ : ∃ m, k = m + 1 := ⟨k - 1, by omega⟩
    simp only [spec_l2Value.l0]
    rw [if_neg (by omega), List.drop_zero]
  | succ n ih =>
    intro k x h hk hx
    obtain ⟨k, rfl⟩ : ∃ m, k = m + 1 := ⟨k - 1, by omega⟩
    obtain rfl : x = (n : Int) := by omega
    have b1 := val_drop_bd l hl hb (n + 1)
    have b2 := hb _ (rd_mem l n (by omega))
    simp only [spec_l2Value.l0]
    rw [if_pos (by omega), if_pos (by omega), if_pos (by omega), w64 (3 * _) (by omega) (by omega), w64 _ (by omega) (by omega), w64 _ (by omega) (by omega)]
    have e : val (l.drop n) = 3 * val (l.drop (n + 1)) + rd l (n : Int) := by rw [drop_rd l n (by omega)]; simp only [val]; omega
    rw [← e]
    exact ih k _ (by omega) (by omega) rfl
theorem spec_l2Value_f (k : Nat) (l : List Int) (hk : 31 ≤ k) (hl : l.length ≤ 30) (hb : Digs l) : spec_l2Value.f k l = some (val l) := by
  unfold spec_l2Value.f
  have := spec_l2Value_l0 l hl hb l.length k (wrap64 ((l.length : Int) - 1)) (Nat.le_refl _) (by omega) (w64 _ (by omega) (by omega))
  rw [List.drop_length] at this
  exact this
theorem impl_power_l0 (a : Int) (ha : a ≤ 30) : ∀ (d k i : Nat), (i : Int) + d = a → d < k → impl_power.l0 k (pow3 i) a (i : Int) = some (pow3 a.toNat) := by
  intro d
  induction d with
  | zero =>
    intro k i h hk
    obtain ⟨k, rfl⟩ : ∃ m, k = m + 1 := ⟨k - 1, by omega⟩
    simp only [impl_power.l0]
    rw [if_neg (by omega), show a.toNat = i from by omega]
  | succ d ih =>
    intro k i h hk
    obtain ⟨k, rfl⟩ : ∃ m, k = m + 1 := ⟨k - 1, by omega⟩
    have h1 := pow3_pos i
    have h2 : pow3 i ≤ pow3 30 := pow3_mono (by omega)
    rw [pow3_30] at h2
    simp only [impl_power.l0]
    rw [if_pos (by omega), w64 _ (by omega) (by omega), w64 _ (by omega) (by omega)]
    have := ih k (i + 1) (by omega) (by omega)
    simp only [pow3] at this
    rw [show pow3 i * 3 = 3 * pow3 i from by omega, show (i : Int) + 1 = ((i + 1 : Nat) : Int) from by omega]
    exact this
theorem impl_power_f (k : Nat) (a : Int) (hk : 31 ≤ k) (ha : a ≤ 30) : impl_power.f k a = some (pow3 a.toNat) := by
  unfold impl_power.f
  by_cases h : 0 ≤ a
  · exact impl_power_l0 a ha a.toNat k 0 (by omega) (by omega)
  · obtain ⟨k, rfl⟩ : ∃ m, k = m + 1 := ⟨k - 1, by omega⟩
    simp only [impl_power.l0]
    rw [if_neg (by omega), show a.toNat = 0 from by omega]; rfl
theorem impl_LimitOf_f (k : Nat) (a : Int) (hk : 31 ≤ k) : impl_LimitOf.f k a = some (if 1 ≤ a ∧ a ≤ 30 then lim a.toNat else 0) := by
  unfold impl_LimitOf.f
  by_cases h1 : a < 1
  · rw [if_pos h1, if_neg (by omega)]
  · rw [if_neg h1]
    by_cases h2 : a > 30
    · rw [if_pos h2, if_neg (by omega)]
    · rw [if_neg h2, impl_power_f k a hk (by omega), if_pos (by omega)]
      have h3 := pow3_lim a.toNat
      have h4 := lim_nonneg a.toNat
      have h5 : lim a.toNat ≤ lim 30 := lim_mono (by omega)
      rw [lim30] at h5
      simp only [bsome]
      rw [w64 (pow3 _ - 1) (by omega) (by omega), h3, show 2 * lim a.toNat + 1 - 1 = 2 * lim a.toNat from by omega, Int.mul_tdiv_cancel_left _ (by omega), w64 _ (by omega) (by omega)]
theorem impl_fits_f (k : Nat) (n a : Int) (hk : 31 ≤ k) (h1 : 1 ≤ a) (h2 : a ≤ 30) : impl_fits.f k n a = some (decide (-lim a.toNat ≤ n ∧ n ≤ lim a.toNat)) := by
  unfold impl_fits.f
  have h4 := lim_nonneg a.toNat
  have h5 : lim a.toNat ≤ lim 30 := lim_mono (by omega)
  rw [lim30] at h5
  rw [impl_LimitOf_f k a hk, if_pos ⟨h1, h2⟩]
  simp only [bsome]
  rw [w64 _ (by omega) (by omega)]
  by_cases h : n ≥ -lim a.toNat
  · rw [if_pos h]; simp [show -lim a.toNat ≤ n from h]
  · rw [if_neg h]
    have : ¬ -lim a.toNat ≤ n := h
    simp [this]
theorem impl_carried_tmod (n : Int) : ∃ c, impl_carried.f (Int.tmod n 3) = some (low3 n, c) := by
  unfold impl_carried.f low3
  rcases Int.le_total 0 n with h | h
  · rw [tmod3_nonneg n h]
    split
    · rw [w64 _ (by omega) (by omega)]; exact ⟨1, by congr 2; omega⟩
    · rw [if_neg (by omega)]; exact ⟨0, by congr 2; omega⟩
  · have e2 := tmod3_nonpos n h
    rw [e2]
    split
    · omega
    · split
      · rw [w64 _ (by omega) (by omega)]; exact ⟨-1, by congr 2; omega⟩
      · exact ⟨0, by congr 2; omega⟩
theorem tdiv_low3 (n : Int) : Int.tdiv (n - low3 n) 3 = rest3 n := by
  have := low3_rest3 n
  rw [show n - low3 n = 3 * rest3 n from by omega, Int.mul_tdiv_cancel_left _ (by omega)]
theorem rest3_bd (n B : Int) (hB : 0 ≤ B) (h0 : -B ≤ n) (h1 : n ≤ B) : -B ≤ rest3 n ∧ rest3 n ≤ B := by unfold rest3; omega
theorem impl_WordOf_l0 (a : Int) (ha : a ≤ 30) : ∀ (d k i : Nat) (n : Int) (acc : List Int), (i : Int) + d = a → d < k → acc.length = i → -1000000000000000000 ≤ n → n ≤ 1000000000000000000 →
    impl_WordOf.l0 k n acc a (i : Int) = some (acc ++ word n d, true) := by
  intro d
  induction d with
  | zero =>
    intro k i n acc h hk hl h0 h1
    obtain ⟨k, rfl⟩ : ∃ m, k = m + 1 := ⟨k - 1, by omega⟩
    simp only [impl_WordOf.l0]
    rw [if_neg (by omega)]; simp [word]
  | succ d ih =>
    intro k i n acc h hk hl h0 h1
    obtain ⟨k, rfl⟩ : ∃ m, k = m + 1 := ⟨k - 1, by omega⟩
    obtain ⟨c, hc⟩ := impl_carried_tmod n
    have ht := low3_trit n
    unfold Trit at ht
    have hu := rest3_bd n 1000000000000000000 (by omega) (by omega) h1
    simp only [impl_WordOf.l0]
    rw [if_pos (by omega), hc]
    simp only [bsome]
    rw [if_pos (by omega), w64 (n - low3 n) (by omega) (by omega), tdiv_low3, w64 (rest3 n) (by omega) (by omega), w64 _ (by omega) (by omega), show (i : Int) + 1 = ((i + 1 : Nat) : Int) from by omega,
      ih k (i + 1) (rest3 n) (acc ++ [low3 n]) (by omega) (by omega) (by simp [hl]) hu.1 hu.2]
    simp [word]
theorem impl_WordOf_f (k : Nat) (n a : Int) (hk : 40 ≤ k) (ha : -9223372036854775808 ≤ a) : impl_WordOf.f k n a = some (wordOf n a) := by
  obtain ⟨k, rfl⟩ : ∃ m, k = m + 1 := ⟨k - 1, by omega⟩
  unfold impl_WordOf.f wordOf
  by_cases h1 : a < 1
  · rw [if_pos h1, if_neg (by omega)]; simp only [impl_WordOf.j0]; rfl
  · rw [if_neg h1]
    by_cases h2 : a > 30
    · rw [if_pos h2, if_neg (by omega)]; simp only [impl_WordOf.j0]; rfl
    · rw [if_neg h2, impl_fits_f _ n a (by omega) (by omega) (by omega)]
      simp only [bsome, impl_WordOf.j0]
      have h5 : lim a.toNat ≤ lim 30 := lim_mono (by omega)
      rw [lim30] at h5
      by_cases h : -lim a.toNat ≤ n ∧ n ≤ lim a.toNat
      · rw [if_neg (by simpa using h), if_pos ⟨by omega, by omega, h⟩]
        have := impl_WordOf_l0 a (by omega) a.toNat k 0 n [] (by omega) (by omega) rfl (by omega) (by omega)
        simpa using this
      · rw [if_pos (by rw [decide_eq_false h]; rfl), if_neg (fun hh => h hh.2.2)]
theorem spec_l2Word_l0 (a : Int) (ha : a ≤ 30) : ∀ (d k i : Nat) (n : Int) (acc : List Int), (i : Int) + d = a → d < k → acc.length = i → -1000000000000000000 ≤ n → n ≤ 1000000000000000000 →
    spec_l2Word.l0 k n a acc (i : Int) = some (acc ++ word n d) := by
  intro d
  induction d with
  | zero =>
    intro k i n acc h hk hl h0 h1
    obtain ⟨k, rfl⟩ : ∃ m, k = m + 1 := ⟨k - 1, by omega⟩
    simp only [spec_l2Word.l0]
    rw [if_neg (by omega)]; simp [word]
  | succ d ih =>
    intro k i n acc h hk hl h0 h1
    obtain ⟨k, rfl⟩ : ∃ m, k = m + 1 := ⟨k - 1, by omega⟩
    have ht := low3_trit n
    unfold Trit at ht
    have hu := rest3_bd n 1000000000000000000 (by omega) (by omega) h1
    have fin : spec_l2Word.l0 k (wrap64 (Int.tdiv (wrap64 (n - low3 n)) 3)) a (acc ++ [low3 n]) (wrap64 ((i : Int) + 1)) = some (acc ++ word n (d + 1)) := by
      rw [w64 (n - low3 n) (by omega) (by omega), tdiv_low3, w64 (rest3 n) (by omega) (by omega), w64 _ (by omega) (by omega), show (i : Int) + 1 = ((i + 1 : Nat) : Int) from by omega,
        ih k (i + 1) (rest3 n) (acc ++ [low3 n]) (by omega) (by omega) (by simp [hl]) hu.1 hu.2]
      simp [word]
    simp only [spec_l2Word.l0]
    rw [if_pos (by omega)]
    rcases Int.le_total 0 n with h | h
    · have e2 := tmod3_nonneg n h
      rw [e2]
      by_cases c : n % 3 > 1
      · rw [if_pos c, w64 (n % 3 - 3) (by omega) (by omega), if_neg (by omega), if_pos (by omega), show n % 3 - 3 = low3 n from by unfold low3; omega]
        exact fin
      · rw [if_neg c, if_neg (by omega), if_pos (by omega), show n % 3 = low3 n from by unfold low3; omega]
        exact fin
    · have e2 := tmod3_nonpos n h
      rw [e2, if_neg (by omega)]
      by_cases c : -((-n) % 3) < -1
      · rw [if_pos c, if_pos (by omega), w64 (-(-n % 3) + 3) (by omega) (by omega), show -(-n % 3) + 3 = low3 n from by unfold low3; omega]
        exact fin
      · rw [if_neg c, if_pos (by omega), show -(-n % 3) = low3 n from by unfold low3; omega]
        exact fin
theorem spec_l2Word_f (k : Nat) (n a : Int) (hk : 40 ≤ k) (ha0 : 0 ≤ a) (ha : a ≤ 30) (h0 : -1000000000000000000 ≤ n) (h1 : n ≤ 1000000000000000000) : spec_l2Word.f k n a = some (word n a.toNat) := by
  unfold spec_l2Word.f
  have := spec_l2Word_l0 a ha a.toNat k 0 n [] (by omega) (by omega) rfl h0 h1
  simpa using this
theorem laws_toIntS_l0 (l : List Int) (hl : l.length ≤ 2000000) : ∀ (d k i : Nat), i + d = l.length → d < k →
    laws_toIntS.l0 k l (l.take i ++ List.replicate d 0) (i : Int) = some l := by
  intro d
  induction d with
  | zero =>
    intro k i h hk
    obtain ⟨k, rfl⟩ : ∃ m, k = m + 1 := ⟨k - 1, by omega⟩
    simp only [laws_toIntS.l0]
    rw [if_neg (by omega)]; simp [List.take_of_length_le (show l.length ≤ i by omega)]
  | succ d ih =>
    intro k i h hk
    obtain ⟨k, rfl⟩ : ∃ m, k = m + 1 := ⟨k - 1, by omega⟩
    have hlen : (l.take i).length = i := by rw [List.length_take]; omega
    simp only [laws_toIntS.l0]
    rw [if_pos (by omega), if_pos (by omega), if_pos (by rw [List.length_append, List.length_replicate, hlen]; omega), w64 _ (by omega) (by omega)]
    have e : (l.take i ++ List.replicate (d + 1) (0 : Int)).set (i : Int).toNat (rd l (i : Int)) = l.take (i + 1) ++ List.replicate d 0 := by
      have h1 := set_append_len (l.take i) 0 (rd l (i : Int)) (List.replicate d 0)
      rw [hlen] at h1
      rw [Int.toNat_natCast, List.replicate_succ, h1, take_rd l i (by omega), List.append_assoc]; rfl
    rw [e, show (i : Int) + 1 = ((i + 1 : Nat) : Int) from by omega]
    exact ih k (i + 1) (by omega) (by omega)
theorem laws_toIntS_f (k : Nat) (l : List Int) (hk : 2000001 ≤ k) (hl : l.length ≤ 2000000) : laws_toIntS.f k l = some l := by
  unfold laws_toIntS.f
  rw [if_pos (by omega), if_pos (by omega)]
  have := laws_toIntS_l0 l hl l.length k 0 (by omega) (by omega)
  simpa using this
theorem laws_eqIntS_l0 (a b : List Int) (hl : a.length ≤ 2000000) (hb : a.length = b.length) : ∀ (d k i : Nat), i + d = a.length → d < k →
    laws_eqIntS.l0 k a b (i : Int) = some (decide (a.drop i = b.drop i)) := by
  intro d
  induction d with
  | zero =>
    intro k i h hk
    obtain ⟨k, rfl⟩ : ∃ m, k = m + 1 := ⟨k - 1, by omega⟩
    simp only [laws_eqIntS.l0]
    rw [if_neg (by omega), List.drop_eq_nil_of_le (by omega), List.drop_eq_nil_of_le (by omega)]; simp
  | succ d ih =>
    intro k i h hk
    obtain ⟨k, rfl⟩ : ∃ m, k = m + 1 := ⟨k - 1, by omega⟩
    simp only [laws_eqIntS.l0]
    rw [if_pos (by omega), if_pos (by omega), if_pos (by omega), drop_rd a i (by omega), drop_rd b i (by omega), w64 _ (by omega) (by omega)]
    by_cases c : rd a (i : Int) = rd b (i : Int)
    · rw [if_pos c, show (i : Int) + 1 = ((i + 1 : Nat) : Int) from by omega, ih k (i + 1) (by omega) (by omega)]
      simp [c]
    · rw [if_neg c]; simp [c]
theorem laws_eqIntS_f (k : Nat) (a b : List Int) (hk : 2000001 ≤ k) (hl : a.length ≤ 2000000) : laws_eqIntS.f k a b = some (decide (a = b)) := by
  unfold laws_eqIntS.f
  by_cases h : a.length = b.length
  · rw [if_pos (by omega)]
    have := laws_eqIntS_l0 a b hl h a.length k 0 (by omega) (by omega)
    simpa using this
  · rw [if_neg (by omega)]
    have : a ≠ b := fun e => h (by rw [e])
    simp [this]
theorem laws_markIntS_l0 : ∀ (rest pre : List Int) (k : Nat) (m : Int), (pre ++ rest).length ≤ 2000000 → rest.length < k → 0 ≤ m → m ≤ 1000000000000 → m + rest.length ≤ 1000000000000 →
    laws_markIntS.l0 k (pre ++ rest) m (pre.length : Int) = some (m + rest.length, pre ++ marks m rest.length) := by
  intro rest
  induction rest with
  | nil =>
    intro pre k m hl hk h0 h1 h2
    obtain ⟨k, rfl⟩ : ∃ m, k = m + 1 := ⟨k - 1, by simp only [List.length_nil] at hk; omega⟩
    simp only [laws_markIntS.l0]
    rw [if_neg (by simp)]; simp [marks]
  | cons x rest ih =>
    intro pre k m hl hk h0 h1 h2
    simp only [List.length_cons, List.length_append] at *
    obtain ⟨k, rfl⟩ : ∃ m, k = m + 1 := ⟨k - 1, by omega⟩
    simp only [laws_markIntS.l0]
    rw [if_pos (by simp only [List.length_append, List.length_cons]; omega), if_pos (by omega), Int.toNat_natCast, set_append_len, w64 _ (by omega) (by omega), w64 _ (by omega) (by omega)]
    have := ih (pre ++ [m]) k (m + 1) (by simp; omega) (by omega) (by omega) (by omega) (by omega)
    simp only [List.append_assoc, List.singleton_append, List.length_append, List.length_singleton] at this
    rw [show (pre.length : Int) + 1 = ((pre.length + 1 : Nat) : Int) from by omega, this]
    simp [marks]; omega
theorem laws_markIntS_f (k : Nat) (l : List Int) (m : Int) (hk : 2000001 ≤ k) (hl : l.length ≤ 2000000) (h0 : 0 ≤ m) (h1 : m ≤ 10000000000) : laws_markIntS.f k l m = some (m + l.length, marks m l.length) := by
  unfold laws_markIntS.f
  have := laws_markIntS_l0 l [] k m (by simpa using hl) (by omega) h0 (by omega) (by omega)
  simpa using this
theorem laws_heldIntS_l0 (l : List Int) (hl : l.length ≤ 2000000) : ∀ (d k i : Nat) (m : Int), i + d = l.length → d < k → 0 ≤ m → m + d ≤ 1000000000000 →
    laws_heldIntS.l0 k l m (i : Int) = some (if l.drop i = marks m d then m + d else -1) := by
  intro d
  induction d with
  | zero =>
    intro k i m h hk h0 h1
    obtain ⟨k, rfl⟩ : ∃ m, k = m + 1 := ⟨k - 1, by omega⟩
    simp only [laws_heldIntS.l0]
    rw [if_neg (by omega), List.drop_eq_nil_of_le (by omega)]; simp [marks]
  | succ d ih =>
    intro k i m h hk h0 h1
    obtain ⟨k, rfl⟩ : ∃ m, k = m + 1 := ⟨k - 1, by omega⟩
    simp only [laws_heldIntS.l0]
    rw [if_pos (by omega), if_pos (by omega), drop_rd l i (by omega), w64 _ (by omega) (by omega), w64 _ (by omega) (by omega)]
    simp only [marks, List.cons.injEq]
    by_cases c : rd l (i : Int) = m
    · rw [if_pos c, show (i : Int) + 1 = ((i + 1 : Nat) : Int) from by omega, ih k (i + 1) (m + 1) (by omega) (by omega) (by omega) (by omega)]
      simp only [c, true_and]
      split
      · congr 1; omega
      · rfl
    · rw [if_neg c, if_neg (fun hh => c hh.1)]
theorem laws_heldIntS_f (k : Nat) (l : List Int) (m : Int) (hk : 2000001 ≤ k) (hl : l.length ≤ 2000000) (h0 : 0 ≤ m) (h1 : m ≤ 10000000000) : laws_heldIntS.f k l m = some (if l = marks m l.length then m + l.length else -1) := by
  unfold laws_heldIntS.f
  have := laws_heldIntS_l0 l hl l.length k 0 m (by omega) (by omega) h0 (by omega)
  simpa using this
theorem laws_heldIntS_marks (k : Nat) (m : Int) (n : Nat) (hk : 2000001 ≤ k) (hl : n ≤ 2000000) (h0 : 0 ≤ m) (h1 : m ≤ 10000000000) : laws_heldIntS.f k (marks m n) m = some (m + n) := by
  rw [laws_heldIntS_f k (marks m n) m hk (by rw [length_marks]; exact hl) h0 h1, length_marks, if_pos rfl]
theorem mx_abs (d : Int) (h : -9223372036854775807 ≤ d) (h1 : d ≤ 9223372036854775807) : mx d (wrap64 (-d)) = abs3 d := by
  rw [w64 _ (by omega) (by omega)]
  unfold mx abs3
  split
  · rw [if_pos (by omega)]
  · split <;> omega
theorem impl_size_f (d : Int) (h : -9223372036854775807 ≤ d) (h1 : d ≤ 9223372036854775807) : impl_size.f d = some (abs3 d) := by
  unfold impl_size.f
  rw [mx_abs d h h1]
theorem spec_l4Abs_f (d : Int) (h : -9223372036854775807 ≤ d) (h1 : d ≤ 9223372036854775807) : spec_l4Abs.f d = some (abs3 d) := by
  unfold spec_l4Abs.f
  rw [mx_abs d h h1]
theorem abs3_le {d B : Int} (h : -B ≤ d) (h1 : d ≤ B) : abs3 d ≤ B := by unfold abs3; split <;> omega
theorem impl_divided_f (n d : Int) (hn0 : -1000000000000000000 ≤ n) (hn1 : n ≤ 1000000000000000000) (hd : d ≠ 0) (hd0 : -1000000000000000000 ≤ d) (hd1 : d ≤ 1000000000000000000) : impl_divided.f n d = some (bquo n d, brem n d) := by
  have hp := abs3_pos hd
  have hb := abs3_le (B := 1000000000000000000) hd0 hd1
  have e1 := tmod_tdiv n (abs3 d)
  have e2 := tmod_range (n := n) hp
  have fin : ∀ r : Int, -abs3 d < 2 * r → 2 * r ≤ abs3 d → (∃ s, n - r = abs3 d * s) → (wrap64 (Int.tdiv (wrap64 (n - r)) d), r) = (bquo n d, brem n d) := by
    intro r h1 h2 ⟨s, hs⟩
    have hs' : ∃ q, n - r = q * d := by
      unfold abs3 at hs
      split at hs
      · exact ⟨-s, by rw [hs, Int.neg_mul, Int.neg_mul, Int.mul_comm]⟩
      · exact ⟨s, by rw [hs, Int.mul_comm]⟩
    obtain ⟨q, hq⟩ := hs'
    obtain ⟨b1, b2⟩ := brem_of (n := n) (q := q) (r := r) hd (by omega) h1 h2
    have b3 := bquo_bd (n := n) hd
    have b4 := abs3_le (B := 1000000000000000000) hn0 hn1
    rw [w64 (n - r) (by omega) (by omega), hq, Int.mul_tdiv_cancel _ hd, b1, b2, w64 q (by omega) (by omega)]
  unfold impl_divided.f
  simp only [impl_size_f d (by omega) (by omega), bsome]
  rw [if_neg (by omega)]
  generalize Int.tmod n (abs3 d) = r at *
  generalize Int.tdiv n (abs3 d) = s at *
  rw [w64 (2 * r) (by omega) (by omega)]
  by_cases c1 : 2 * r > abs3 d
  · rw [if_pos c1, if_neg hd, w64 (r - abs3 d) (by omega) (by omega)]
    congr 1
    exact fin (r - abs3 d) (by omega) (by omega) ⟨s + 1, by rw [Int.mul_add]; omega⟩
  · rw [if_neg c1, w64 (-abs3 d) (by omega) (by omega)]
    by_cases c2 : 2 * r ≤ -abs3 d
    · rw [if_pos c2, if_neg hd, w64 (r + abs3 d) (by omega) (by omega)]
      congr 1
      exact fin (r + abs3 d) (by omega) (by omega) ⟨s - 1, by rw [Int.mul_sub]; omega⟩
    · rw [if_neg c2, if_neg hd]
      congr 1
      exact fin r (by omega) (by omega) ⟨s, by omega⟩
theorem spec_SignOf_f (d : Int) : spec_SignOf.f d = some (if d < 0 then -1 else if d > 0 then 1 else 0) := by
  unfold spec_SignOf.f
  split
  · rfl
  · split <;> rfl
theorem sgn_bd (d : Int) : -1 ≤ (if d < 0 then -1 else if d > 0 then 1 else 0 : Int) ∧ (if d < 0 then -1 else if d > 0 then 1 else 0 : Int) ≤ 1 := by
  split
  · omega
  · split <;> omega
theorem spec_l4Divide_l1 (k : Nat) (n d q r : Int) (hk : 3 ≤ k) (hd : d ≠ 0) (hd0 : -1000000000000000000 ≤ d) (hd1 : d ≤ 1000000000000000000) (e : n = q * d + r) (hn0 : -1000000000000000000 ≤ n) (hn1 : n ≤ 1000000000000000000)
    (hq0 : -2000000000000000000 ≤ q) (hq1 : q ≤ 2000000000000000000) (h1 : -abs3 d < r) (h2 : 2 * r ≤ abs3 d) : spec_l4Divide.l1 k d q r = some (bquo n d, brem n d) := by
  have hp := abs3_pos hd
  have hb := abs3_le (B := 1000000000000000000) hd0 hd1
  obtain ⟨k, rfl⟩ : ∃ m, k = m + 2 := ⟨k - 2, by omega⟩
  have last : ∀ (k : Nat) (q r : Int), n = q * d + r → -abs3 d < 2 * r → 2 * r ≤ abs3 d → spec_l4Divide.l1 (k + 1) d q r = some (bquo n d, brem n d) := by
    intro k q r e h1 h2
    obtain ⟨b1, b2⟩ := brem_of (n := n) (q := q) (r := r) hd e h1 h2
    simp only [spec_l4Divide.l1]
    rw [spec_l4Abs_f d (by omega) (by omega), bsome, w64 (2 * r) (by omega) (by omega), w64 (-abs3 d) (by omega) (by omega), if_neg (by omega), b1, b2]
  by_cases c : 2 * r ≤ -abs3 d
  · have e2 : d * (if d < 0 then -1 else if d > 0 then 1 else 0) = abs3 d := by
      unfold abs3
      split
      · omega
      · rw [if_pos (by omega)]; omega
    have sb : ∃ s : Int, (if d < 0 then -1 else if d > 0 then 1 else 0 : Int) = s ∧ (-1 ≤ s ∧ s ≤ 1) ∧ d * s = abs3 d := ⟨_, rfl, sgn_bd d, e2⟩
    obtain ⟨s, hs, ⟨s0, s1⟩, s2⟩ := sb
    rw [spec_l4Divide.l1]
    rw [spec_l4Abs_f d (by omega) (by omega), bsome, w64 (2 * r) (by omega) (by omega), w64 (-abs3 d) (by omega) (by omega), if_pos c, bsome, spec_SignOf_f, bsome, hs, w64 (q - s) (by omega) (by omega), w64 (r + abs3 d) (by omega) (by omega)]
    exact last k (q - s) (r + abs3 d) (by rw [Int.sub_mul, Int.mul_comm s d]; omega) (by omega) (by omega)
  · exact last (k + 1) q r e (by omega) h2
theorem spec_l4Divide_f (k : Nat) (n d : Int) (hk : 6 ≤ k) (hn0 : -1000000000000000000 ≤ n) (hn1 : n ≤ 1000000000000000000) (hd : d ≠ 0) (hd0 : -1000000000000000000 ≤ d) (hd1 : d ≤ 1000000000000000000) : spec_l4Divide.f k n d = some (bquo n d, brem n d) := by
  have hp := abs3_pos hd
  have hb := abs3_le (B := 1000000000000000000) hd0 hd1
  have e1 := tmod_tdiv n d
  have e2 : (0 ≤ n → 0 ≤ Int.tmod n d ∧ Int.tmod n d < abs3 d) ∧ (n ≤ 0 → -abs3 d < Int.tmod n d ∧ Int.tmod n d ≤ 0) := by
    have h := tmod_range (n := n) hp
    unfold abs3 at h ⊢
    split
    · rename_i hneg
      rw [if_pos hneg, Int.tmod_neg] at h
      exact h
    · rename_i hneg
      rw [if_neg hneg] at h
      exact h
  have hq : -1000000000000000000 ≤ Int.tdiv n d ∧ Int.tdiv n d ≤ 1000000000000000000 := by
    have h1 := Int.natAbs_tdiv n d
    have h2 := Nat.div_le_self n.natAbs d.natAbs
    have h3 : (Int.tdiv n d).natAbs ≤ n.natAbs := by rw [h1]; exact h2
    clear h1 h2
    omega
  unfold spec_l4Divide.f
  rw [if_neg hd, w64 (Int.tdiv n d) (by omega) (by omega)]
  have em : Int.tdiv n d * d = d * Int.tdiv n d := Int.mul_comm ..
  generalize Int.tmod n d = r at *
  generalize Int.tdiv n d = q at *
  rw [w64 (q * d) (by omega) (by omega), w64 (n - q * d) (by omega) (by omega), show n - q * d = r from by omega]
  obtain ⟨k, rfl⟩ : ∃ m, k = m + 2 := ⟨k - 2, by omega⟩
  by_cases c : 2 * r > abs3 d
  · have e2 : d * (if d < 0 then -1 else if d > 0 then 1 else 0) = abs3 d := by
      unfold abs3
      split
      · omega
      · rw [if_pos (by omega)]; omega
    have sb : ∃ s : Int, (if d < 0 then -1 else if d > 0 then 1 else 0 : Int) = s ∧ (-1 ≤ s ∧ s ≤ 1) ∧ d * s = abs3 d := ⟨_, rfl, sgn_bd d, e2⟩
    obtain ⟨s, hs, ⟨s0, s1⟩, s2⟩ := sb
    rw [spec_l4Divide.l0]
    rw [spec_l4Abs_f d (by omega) (by omega), bsome, w64 (2 * r) (by omega) (by omega), if_pos c, bsome, spec_SignOf_f, bsome, hs, w64 (q + s) (by omega) (by omega), w64 (r - abs3 d) (by omega) (by omega), spec_l4Divide.l0, spec_l4Abs_f d (by omega) (by omega), bsome, w64 (2 * (r - abs3 d)) (by omega) (by omega), if_neg (by omega)]
    exact spec_l4Divide_l1 k n d (q + s) (r - abs3 d) (by omega) hd hd0 hd1 (by rw [Int.add_mul, Int.mul_comm s d]; omega) hn0 hn1 (by omega) (by omega) (by omega) (by omega)
  · simp only [spec_l4Divide.l0]
    rw [spec_l4Abs_f d (by omega) (by omega), bsome, w64 (2 * r) (by omega) (by omega), if_neg c]
    exact spec_l4Divide_l1 (k + 1) n d q r (by omega) hd hd0 hd1 (by omega) hn0 hn1 (by omega) (by omega) (by omega) (by omega)
theorem spec_LimitOf_l0 (a : Int) (ha : a ≤ 30) : ∀ (d k i : Nat), (i : Int) + d = a → d < k → spec_LimitOf.l0 k a (lim i) (i : Int) = some (lim a.toNat) := by
  intro d
  induction d with
  | zero =>
    intro k i h hk
    obtain ⟨k, rfl⟩ : ∃ m, k = m + 1 := ⟨k - 1, by omega⟩
    simp only [spec_LimitOf.l0]
    rw [if_neg (by omega), show a.toNat = i from by omega]
  | succ d ih =>
    intro k i h hk
    obtain ⟨k, rfl⟩ : ∃ m, k = m + 1 := ⟨k - 1, by omega⟩
    have h1 := lim_nonneg i
    have h2 : lim i ≤ lim 30 := lim_mono (by omega)
    rw [lim30] at h2
    simp only [spec_LimitOf.l0]
    rw [if_pos (by omega), w64 (3 * lim i) (by omega) (by omega), w64 _ (by omega) (by omega), w64 _ (by omega) (by omega), show (i : Int) + 1 = ((i + 1 : Nat) : Int) from by omega]
    exact ih k (i + 1) (by omega) (by omega)
theorem spec_LimitOf_f (k : Nat) (a : Int) (hk : 31 ≤ k) : spec_LimitOf.f k a = some (if 1 ≤ a ∧ a ≤ 30 then lim a.toNat else 0) := by
  unfold spec_LimitOf.f
  rw [spec_l1In_f, bsome]
  by_cases h : 1 ≤ a ∧ a ≤ 30
  · rw [if_pos (by simpa using h), if_pos h]
    exact spec_LimitOf_l0 a (by omega) a.toNat k 0 (by omega) (by omega)
  · rw [if_neg (by simpa using h), if_neg h]
theorem spec_l5Lift_f (k : Nat) (x n : Int) (hk : 50 ≤ k) (hn : n ≤ 30) (h0 : -10000 ≤ x) (h1 : x ≤ 10000) : spec_l5Lift.f k x n = some (x * pow3 n.toNat) := by
  have key : ∀ (d k i : Nat) (n : Int), n = d → d < k → i + d ≤ 30 → spec_l5Lift.l0 k (x * pow3 i) n = some (x * pow3 (i + d)) := by
    intro d
    induction d with
    | zero =>
      intro k i n e hk hi
      obtain ⟨k, rfl⟩ : ∃ m, k = m + 1 := ⟨k - 1, by omega⟩
      rw [spec_l5Lift.l0, if_neg (by omega)]; rfl
    | succ d ih =>
      intro k i n e hk hi
      obtain ⟨k, rfl⟩ : ∃ m, k = m + 1 := ⟨k - 1, by omega⟩
      have p1 := pow3_pos i
      have p2 : pow3 i ≤ pow3 30 := pow3_mono (by omega)
      rw [pow3_30] at p2
      have := mul_le (x := x) (y := pow3 i) (a := 10000) (b := 205891132094649) ⟨h0, h1⟩ ⟨by omega, p2⟩
      rw [spec_l5Lift.l0, if_pos (by omega), w64 (3 * _) (by omega) (by omega), w64 _ (by omega) (by omega), Int.mul_left_comm]
      have := ih k (i + 1) (n - 1) (by omega) (by omega) (by omega)
      rw [show i + 1 + d = i + (d + 1) from by omega] at this
      exact this
  unfold spec_l5Lift.f
  by_cases c : 0 ≤ n
  · have := key n.toNat k 0 n (by omega) (by omega) (by omega)
    simp only [pow3, Int.mul_one, Nat.zero_add] at this
    exact this
  · obtain ⟨k, rfl⟩ : ∃ m, k = m + 1 := ⟨k - 1, by omega⟩
    rw [spec_l5Lift.l0, if_neg (by omega), show n.toNat = 0 from by omega]; simp [pow3]
theorem impl_highest_l0 (l : List Int) (hl : l.length ≤ 1000) (ht : Trits l) : ∀ (i k : Nat) (x : Int), i ≤ l.length → i < k → x = (i : Int) - 1 → impl_highest.l0 k l x = some (sg (val (l.take i))) := by
  intro i
  induction i with
  | zero =>
    intro k x h hk hx
    obtain ⟨k, rfl⟩ : ∃ m, k = m + 1 := ⟨k - 1, by omega⟩
    rw [impl_highest.l0, if_neg (by omega)]
    rfl
  | succ i ih =>
    intro k x h hk hx
    obtain ⟨k, rfl⟩ : ∃ m, k = m + 1 := ⟨k - 1, by omega⟩
    obtain rfl : x = (i : Int) := by omega
    have hy := ht _ (rd_mem l i (by omega))
    have lt : (l.take i).length = i := by rw [List.length_take]; omega
    have bd := val_bd (l.take i) (ht.take i)
    have p := pow3_lim i
    have va : val (l.take (i + 1)) = val (l.take i) + pow3 i * rd l (i : Int) := by
      rw [take_rd l i (by omega), val_append, lt]
      simp [val]
    rw [lt] at bd
    have ln := lim_nonneg i
    rw [impl_highest.l0, if_pos (by omega), if_pos (by omega), if_pos (by omega), va]
    generalize rd l (i : Int) = y at *
    unfold Trit at hy
    have : y = -1 ∨ y = 0 ∨ y = 1 := by omega
    rcases this with rfl | rfl | rfl
    · rw [if_neg (by omega)]
      unfold sg
      rw [if_pos (by omega)]
    · rw [if_pos rfl, Int.mul_zero, Int.add_zero]
      exact ih k _ (by omega) (by omega) (by rw [w64 _ (by omega) (by omega)])
    · rw [if_neg (by omega)]
      unfold sg
      rw [if_neg (by omega), if_pos (by omega)]
theorem laws_szIntS_f (l : List Int) (a : Int) (hl : l.length ≤ maxLen) (h0 : 0 ≤ a) (h1 : a ≤ 1048576) : laws_szIntS.f l a = some (if a < (l.length : Int) then -1 else a - l.length) := by
  unfold maxLen at hl
  unfold laws_szIntS.f
  rw [w64 _ (by omega) (by omega)]
  by_cases h : a < (l.length : Int)
  · rw [if_pos (by omega), if_pos h]
  · rw [if_neg (by omega), if_neg h]
theorem laws_szFloating_f (l : List Int) (e a : Int) (hl : l.length ≤ maxLen) (h0 : 0 ≤ a) (h1 : a ≤ 1048576) : laws_szFloating.f l e a = some (if a < (l.length : Int) then -1 else a - l.length) := by
  unfold laws_szFloating.f
  rw [laws_szIntS_f l a hl h0 h1, bsome]
  by_cases h : a < (l.length : Int)
  · rw [if_pos h, if_pos (by omega)]
  · rw [if_neg h, if_neg (by omega)]
theorem laws_toFloating_f (k : Nat) (l : List Int) (e : Int) (hk : 2000001 ≤ k) (hl : l.length ≤ 2000000) : laws_toFloating.f k l e = some (l, e) := by
  unfold laws_toFloating.f
  rw [laws_toIntS_f k l hk hl, bsome]
theorem laws_eqFloating_f (k : Nat) (a : List Int) (ea : Int) (b : List Int) (eb : Int) (hk : 2000001 ≤ k) (hl : a.length ≤ 2000000) : laws_eqFloating.f k a ea b eb = some (decide (a = b ∧ ea = eb)) := by
  unfold laws_eqFloating.f
  rw [laws_eqIntS_f k a b hk hl, bsome]
  by_cases h : a = b <;> by_cases h2 : ea = eb <;> simp [h, h2]
theorem laws_eqFloating_same (k : Nat) (a : List Int) (ea : Int) (hk : 2000001 ≤ k) (hl : a.length ≤ 2000000) : laws_eqFloating.f k a ea a ea = some true := by
  rw [laws_eqFloating_f k a ea a ea hk hl]; simp
theorem laws_markFloating_f (k : Nat) (l : List Int) (e m : Int) (hk : 2000001 ≤ k) (hl : l.length ≤ 2000000) (h0 : 0 ≤ m) (h1 : m ≤ 10000000000) : laws_markFloating.f k l e m = some (m + l.length, marks m l.length) := by
  unfold laws_markFloating.f
  rw [laws_markIntS_f k l m hk hl h0 h1, bsome]
theorem laws_heldFloating_marks (k : Nat) (m : Int) (n : Nat) (e : Int) (hk : 2000001 ≤ k) (hl : n ≤ 2000000) (h0 : 0 ≤ m) (h1 : m ≤ 10000000000) : laws_heldFloating.f k (marks m n) e m = some (m + n) := by
  unfold laws_heldFloating.f
  rw [laws_heldIntS_marks k m n hk hl h0 h1, bsome, if_neg (by omega)]
theorem impl_highest_f (k : Nat) (l : List Int) (hk : 2000 ≤ k) (hl : l.length ≤ 1000) (ht : Trits l) : impl_highest.f k l = some (sg (val l)) := by
  unfold impl_highest.f
  have := impl_highest_l0 l hl ht l.length k ((l.length : Int) - 1) (by omega) (by omega) rfl
  rw [List.take_length] at this
  rw [w64 _ (by omega) (by omega), this]
theorem sg_zero (v : Int) : sg v = 0 ↔ v = 0 := by
  unfold sg
  split
  · omega
  · split <;> omega
theorem impl_IsFloat_f (k : Nat) (l : List Int) (e : Int) (hk : 2000001 ≤ k) (hl : l.length ≤ 2000000) : impl_IsFloat.f k l e = some (decide (Fl l e)) := by
  unfold impl_IsFloat.f
  by_cases h6 : (l.length : Int) = 6
  · rw [if_pos h6, impl_trits_f k l hk hl, bsome]
    by_cases ht : Trits l
    · rw [if_pos (by simpa using ht)]
      by_cases h1 : e < -20
      · rw [if_pos h1, decide_eq_false]; intro h; have := h.2.2.1; omega
      · rw [if_neg h1]
        by_cases h2 : e > 20
        · rw [if_pos h2, decide_eq_false]; intro h; have := h.2.2.2.1; omega
        · rw [if_neg h2, if_pos (by omega)]
          have er : rd l 5 = l.getD 5 0 := rfl
          by_cases h3 : rd l 5 = 0
          · rw [if_pos h3, impl_highest_f k l (by omega) (by omega) ht, bsome]
            by_cases h4 : val l = 0
            · rw [if_pos ((sg_zero _).2 h4)]
              congr 1
              by_cases h5 : e = 0
              · subst h5; rw [decide_eq_true]; rfl; exact ⟨by omega, ht, by decide, by decide, .inr ⟨h4, rfl⟩⟩
              · rw [decide_eq_false]; simp [h5]
                intro h; rcases h.2.2.2.2 with h | h
                · exact h (er ▸ h3)
                · exact h5 h.2
            · rw [if_neg (fun h => h4 ((sg_zero _).1 h)), decide_eq_false]
              intro h; rcases h.2.2.2.2 with h | h
              · exact h (er ▸ h3)
              · exact h4 h.1
          · rw [if_neg h3, decide_eq_true]
            exact ⟨by omega, ht, by omega, by omega, .inl (fun h => h3 (er.trans h))⟩
    · rw [if_neg (by simpa using ht), decide_eq_false]; intro h; exact ht h.2.1
  · rw [if_neg h6, decide_eq_false]; intro h; have := h.1; omega
theorem spec_IsFloat_f (k : Nat) (l : List Int) (e : Int) (hk : 2000001 ≤ k) (hl : l.length ≤ 2000000) : spec_IsFloat.f k l e = some (decide (Fl l e)) := by
  unfold spec_IsFloat.f
  rw [spec_IsWord_f k l hk hl, bsome]
  by_cases hw : Word l
  · rw [if_pos (by simpa using hw)]
    by_cases h6 : (l.length : Int) = 6
    · rw [if_pos h6, spec_l1In_f, bsome]
      by_cases hr : -20 ≤ e ∧ e ≤ 20
      · rw [if_pos (by simpa using hr), if_pos (by omega)]
        have er : rd l 5 = l.getD 5 0 := rfl
        by_cases h3 : rd l 5 = 0
        · rw [if_pos h3]
          by_cases h5 : e = 0
          · rw [if_pos h5, spec_l2Value_f k l (by omega) hw.2.1 hw.2.2.digs, bsome]
            by_cases h4 : val l = 0
            · rw [decide_eq_true (p := Fl l e) ⟨by omega, hw.2.2, by omega, by omega, .inr ⟨h4, h5⟩⟩, h4]; rfl
            · rw [decide_eq_false]
              · simp [h4]
              · intro h; rcases h.2.2.2.2 with h | h
                · exact h (er ▸ h3)
                · exact h4 h.1
          · rw [if_neg h5, decide_eq_false]; intro h; rcases h.2.2.2.2 with h | h
            · exact h (er ▸ h3)
            · exact h5 h.2
        · rw [if_neg h3, decide_eq_true]; exact ⟨by omega, hw.2.2, by omega, by omega, .inl (fun h => h3 (er.trans h))⟩
      · rw [if_neg (by simpa using hr), decide_eq_false]; intro h; exact hr ⟨h.2.2.1, h.2.2.2.1⟩
    · rw [if_neg h6, decide_eq_false]; intro h; have := h.1; omega
  · rw [if_neg (by simpa using hw), decide_eq_false]; intro h; exact hw ⟨by have := h.1; omega, by have := h.1; omega, h.2.1⟩
theorem fl_val {l : List Int} {e : Int} (h : Fl l e) : -364 ≤ val l ∧ val l ≤ 364 := by
  have := val_bd l h.2.1
  rw [h.1, show lim 6 = 364 by decide] at this
  exact this
theorem spec_l2Copy_f (l : List Int) (hl : l.length ≤ 2000000) : spec_l2Copy.f l = some l := by
  unfold spec_l2Copy.f
  rw [bsome, if_pos (by simp; omega)]; rfl
theorem rd_L2_two (a b : List Int) : rd_L1 [a, b] 0 = a ∧ rd_L1 [a, b] 1 = b := ⟨rfl, rfl⟩
theorem slices_Concat_f2 (k : Nat) (a b : List Int) (hk : 100 ≤ k) (ha : a.length ≤ 2000000) (hb : b.length ≤ 2000000) : slices_Concat_int_int.f k [a, b] = some (a ++ b) := by
  obtain ⟨k, rfl⟩ : ∃ m, k = m + 6 := ⟨k - 6, by omega⟩
  unfold slices_Concat_int_int.f
  have l2 : (([a, b] : List (List Int)).length : Int) = 2 := rfl
  rw [l2, slices_Concat_int_int.l0, l2, if_pos (by omega), if_pos (by omega), if_pos (by omega), (rd_L2_two a b).1, w64 (0 + (a.length : Int)) (by omega) (by omega), if_neg (by omega), w64 (0 + 1) (by omega) (by omega), Int.zero_add, Int.zero_add]
  rw [slices_Concat_int_int.l0, l2, if_pos (by omega), if_pos (by omega), if_pos (by omega), (rd_L2_two a b).2, w64 ((a.length : Int) + (b.length : Int)) (by omega) (by omega), if_neg (by omega), w64 (1 + 1) (by omega) (by omega)]
  rw [slices_Concat_int_int.l0, if_neg (by omega)]
  unfold slices_Grow_int_int.f
  rw [if_pos (by omega), if_pos (by omega), if_pos List.length_nil, bsome, l2]
  rw [slices_Concat_int_int.l1, l2, if_pos (by omega), if_pos (by omega), if_pos (by omega), (rd_L2_two a b).1, if_pos (by rw [List.length_nil]; omega), w64 (0 + 1) (by omega) (by omega), List.nil_append, Int.zero_add]
  rw [slices_Concat_int_int.l1, l2, if_pos (by omega), if_pos (by omega), if_pos (by omega), (rd_L2_two a b).2, if_pos (by omega), w64 (1 + 1) (by omega) (by omega)]
  rw [slices_Concat_int_int.l1, if_neg (by omega)]
theorem cut_end (k : Nat) (w : List Int) (e : Int) (hk : 2000100 ≤ k) (hl : w.length ≤ 100) (ht : Trits w) (h0 : -1000 ≤ e) (h1 : e ≤ 1000) : impl_cut.j1 (k + 1) w e (tops w : Int) = some (flo (val w) e) := by
  have htl := tops_le w
  rw [impl_cut.j1]
  by_cases hz : tops w = 0
  · rw [if_pos (by omega), if_pos (by decide), (val_tops w).2 hz]
    rfl
  · have hv : val w ≠ 0 := by intro h; have := tops_len3 w ht; rw [h, len3_zero] at this; omega
    have hlen := tops_len3 w ht
    rw [if_neg (by omega), if_pos (by decide), if_pos (by omega), if_pos (by omega), Int.toNat_natCast, take_tops w ht, slices_Concat_f2 k _ _ (by omega) (by simp) (by rw [length_word]; omega), bsome]
    rw [if_pos (by rw [List.length_append, List.length_replicate, length_word]; omega)]
    have ed : (List.replicate 6 0 ++ word (val w) (len3 (val w))).drop (tops w) = digs (val w) := by unfold digs; rw [hlen]
    unfold slices_Clone_int_int.f
    rw [ed, if_pos (by rw [digs_len]; decide), bsome, w64 (e + (tops w : Int)) (by omega) (by omega), w64 _ (by omega) (by omega), impl_IsFloat_f k _ _ (by omega) (by rw [digs_len]; decide), bsome]
    unfold flo
    rw [if_neg hv, hlen]
    by_cases hr : -20 ≤ e + (tops w : Int) - 6 ∧ e + (tops w : Int) - 6 ≤ 20
    · rw [if_pos (by simpa [fl_digs hv] using hr), if_pos hr]
    · rw [if_neg (by simpa [fl_digs hv] using hr), if_neg hr]
theorem impl_cut_f (k : Nat) (w : List Int) (e : Int) (hk : 2000300 ≤ k) (hl : w.length ≤ 100) (ht : Trits w) (h0 : -1000 ≤ e) (h1 : e ≤ 1000) : impl_cut.f k w e = some (flo (val w) e) := by
  have htl := tops_le w
  have key : ∀ (d k i : Nat), i = tops w + d → i ≤ w.length → d + 2000150 < k → impl_cut.l0 k w e (i : Int) = some (flo (val w) e) := by
    intro d
    induction d with
    | zero =>
      intro k i hi hle hk
      obtain ⟨k, rfl⟩ : ∃ m, k = m + 2 := ⟨k - 2, by omega⟩
      rw [impl_cut.l0]
      have hj := cut_end k w e (by omega) hl ht h0 h1
      obtain rfl : i = tops w := by omega
      by_cases hz : tops w = 0
      · rw [if_neg (by omega), hj]
      · obtain ⟨n, hn⟩ : ∃ n, tops w = n + 1 := ⟨tops w - 1, by omega⟩
        have hne := tops_last w n hn
        rw [if_pos (by omega), w64 _ (by omega) (by omega), if_pos (by omega), if_pos (by omega), show ((tops w : Nat) : Int) - 1 = (n : Int) by omega, rd_nat, if_neg hne, hj]
    | succ d ih =>
      intro k i hi hle hk
      obtain ⟨k, rfl⟩ : ∃ m, k = m + 1 := ⟨k - 1, by omega⟩
      obtain ⟨n, rfl⟩ : ∃ n, i = n + 1 := ⟨i - 1, by omega⟩
      have hz := getD_tops w n (by omega)
      rw [impl_cut.l0, if_pos (by omega), w64 _ (by omega) (by omega), if_pos (by omega), if_pos (by omega), show ((n + 1 : Nat) : Int) - 1 = (n : Int) by omega, rd_nat, if_pos hz]
      exact ih k n (by omega) (by omega) (by omega)
  unfold impl_cut.f
  exact key (w.length - tops w) k w.length (by omega) (Nat.le_refl _) (by omega)
theorem impl_floated_f (k : Nat) (n e : Int) (hk : 2000300 ≤ k) (h0 : -1000 ≤ e) (h1 : e ≤ 1000) : impl_floated.f k n e = some (if -lim 30 ≤ n ∧ n ≤ lim 30 then flo n e else ([], 0, false)) := by
  unfold impl_floated.f
  rw [impl_WordOf_f k n 30 (by omega) (by omega), bsome]
  by_cases h : -lim 30 ≤ n ∧ n ≤ lim 30
  · rw [wordOf_yes (n := n) (k := 30) (by decide) (by decide) h.1 h.2, if_pos rfl, if_pos h, impl_cut_f k _ e hk (by rw [length_word]; decide) (trits_word _ _) h0 h1, bsome, show (30 : Int).toNat = 30 from rfl, val_word 30 n h.1 h.2]
  · have e0 : wordOf n 30 = ([], false) := if_neg (fun hh => h hh.2.2)
    rw [e0, if_neg h]
    rfl
def lengthOf (n : Int) : Int := if n = 0 then 1 else if len3 n ≤ 30 then (len3 n : Int) else 0
theorem spec_LengthOf_l0 (n : Int) : ∀ (d k i : Nat), i + d = 31 → d + 40 < k → 1 ≤ i → (∀ j, j < i → j = 0 ∨ ¬(-lim j ≤ n ∧ n ≤ lim j)) → spec_LengthOf.l0 k n (i : Int) = some (lengthOf n) := by
  intro d
  induction d with
  | zero =>
    intro k i hi hk h1 hj
    obtain ⟨k, rfl⟩ : ∃ m, k = m + 1 := ⟨k - 1, by omega⟩
    rw [spec_LengthOf.l0, if_neg (by omega)]
    have h30 := hj 30 (by omega)
    have hb := len3_bd n
    unfold lengthOf
    rw [if_neg, if_neg]
    · intro hle
      have := lim_mono hle
      rcases h30 with h | h
      · omega
      · exact h (by omega)
    · intro hz
      rcases h30 with h | h
      · omega
      · exact h (by subst hz; have := lim_nonneg 30; omega)
  | succ d ih =>
    intro k i hi hk h1 hj
    obtain ⟨k, rfl⟩ : ∃ m, k = m + 1 := ⟨k - 1, by omega⟩
    have hl := spec_LimitOf_f k (i : Int) (by omega)
    rw [if_pos (by omega), Int.toNat_natCast] at hl
    have hm := lim_mono (show i ≤ 30 by omega)
    have hn := lim_nonneg i
    rw [lim30] at hm
    rw [spec_LengthOf.l0, if_pos (by omega), hl, bsome, bsome, w64 _ (by omega) (by omega), spec_l1In_f, bsome]
    by_cases c : -lim i ≤ n ∧ n ≤ lim i
    · rw [if_pos (by simpa using c)]
      unfold lengthOf
      by_cases hz : n = 0
      · rw [if_pos hz]
        have hi1 : i = 1 := by
          rcases Nat.lt_or_ge 1 i with h | h
          · rcases hj 1 h with h2 | h2
            · omega
            · exact absurd (by subst hz; decide) h2
          · omega
        subst hi1; rfl
      · have hlen : len3 n = i := by
          obtain ⟨m, rfl⟩ : ∃ m, i = m + 1 := ⟨i - 1, by omega⟩
          refine len3_of c.1 c.2 ?_
          rcases Nat.eq_zero_or_pos m with h | h
          · subst h; simp only [lim]; omega
          · rcases hj m (by omega) with h2 | h2
            · omega
            · omega
        rw [if_neg hz, hlen, if_pos (by omega)]
    · rw [if_neg (by simpa using c), w64 _ (by omega) (by omega), show (i : Int) + 1 = ((i + 1 : Nat) : Int) by omega]
      refine ih k (i + 1) (by omega) (by omega) (by omega) (fun j hj2 => ?_)
      rcases Nat.lt_or_ge j i with h | h
      · exact hj j h
      · obtain rfl : j = i := by omega
        exact .inr c
theorem spec_LengthOf_f (k : Nat) (n : Int) (hk : 200 ≤ k) : spec_LengthOf.f k n = some (lengthOf n) := by
  unfold spec_LengthOf.f
  exact spec_LengthOf_l0 n 30 k 1 (by omega) (by omega) (by omega) (fun j hj => .inl (by omega))
theorem l5_end (k : Nat) (w : List Int) (e : Int) (hk : 2000001 ≤ k) (h6 : 6 ≤ w.length) (hl : w.length ≤ 100) (h0 : -1000 ≤ e) (h1 : e ≤ 1000) :
    spec_l5Of.l0 (k + 1) e w = some (if Fl (w.drop (w.length - 6)) (e + w.length - 6) then (w.drop (w.length - 6), e + w.length - 6, true) else ([], 0, false)) := by
  rw [spec_l5Of.l0, if_neg (by omega), w64 ((w.length : Int) - 6) (by omega) (by omega), if_pos (by omega), if_pos (by omega), show ((w.length : Int) - 6).toNat = w.length - 6 by omega, spec_l2Copy_f _ (by rw [List.length_drop]; omega), bsome,
    w64 (e + (w.length : Int)) (by omega) (by omega), w64 _ (by omega) (by omega), spec_IsFloat_f k _ _ hk (by rw [List.length_drop]; omega), bsome]
  by_cases h : Fl (w.drop (w.length - 6)) (e + w.length - 6)
  · rw [if_pos (by simpa using h), if_pos h]
  · rw [if_neg (by simpa using h), if_neg h]
theorem l5_loop : ∀ (d k : Nat) (w : List Int) (e : Int), w.length + d = 6 → d + 2000002 < k → -900 + (d : Int) ≤ e → e ≤ 900 → spec_l5Of.l0 k e w = spec_l5Of.l0 (k - d) (e - d) (List.replicate d 0 ++ w) := by
  intro d
  induction d with
  | zero => intro k w e _ _ _ _; simp
  | succ d ih =>
    intro k w e hl hk h0 h1
    obtain ⟨k, rfl⟩ : ∃ m, k = m + 1 := ⟨k - 1, by omega⟩
    rw [spec_l5Of.l0, if_pos (by omega), bsome, if_pos (by rw [List.length_singleton]; omega), w64 _ (by omega) (by omega), ih k ([0] ++ w) (e - 1) (by rw [List.length_append, List.length_singleton]; omega) (by omega) (by omega) (by omega)]
    rw [← List.append_assoc, show List.replicate d 0 ++ [0] = List.replicate (d + 1) (0 : Int) from List.replicate_succ'.symm, show e - 1 - (d : Int) = e - ((d + 1 : Nat) : Int) by omega, show k + 1 - (d + 1) = k - d by omega]
theorem spec_l5Of_f (k : Nat) (n e : Int) (hk : 2000300 ≤ k) (hn0 : -lim 30 ≤ n) (hn1 : n ≤ lim 30) (h0 : -800 ≤ e) (h1 : e ≤ 800) : spec_l5Of.f k n e = some (flo n e) := by
  unfold spec_l5Of.f flo
  by_cases hz : n = 0
  · rw [if_pos hz, if_pos hz]
    rfl
  · rw [if_neg hz, if_neg hz, spec_LengthOf_f k n (by omega), bsome]
    have h30 := len3_le 30 n hn0 hn1
    have hp := len3_pos hz
    rw [lim30] at hn0 hn1
    unfold lengthOf
    rw [if_neg hz, if_pos h30, spec_l2Word_f k n _ (by omega) (by omega) (by omega) (by omega) (by omega), bsome, Int.toNat_natCast]
    have hlw : (word n (len3 n)).length = len3 n := length_word _ _
    by_cases h6 : 6 ≤ len3 n
    · obtain ⟨k, rfl⟩ : ∃ m, k = m + 1 := ⟨k - 1, by omega⟩
      rw [l5_end k _ e (by omega) (by omega) (by omega) (by omega) (by omega), hlw, ← digs_eq_big n h6]
      by_cases hr : -20 ≤ e + (len3 n : Int) - 6 ∧ e + (len3 n : Int) - 6 ≤ 20
      · rw [if_pos ((fl_digs hz).2 hr), if_pos hr]
      · rw [if_neg (fun h => hr ((fl_digs hz).1 h)), if_neg hr]
    · rw [l5_loop (6 - len3 n) k _ e (by omega) (by omega) (by omega) (by omega), ← digs_eq_small n (by omega)]
      obtain ⟨m, hm⟩ : ∃ m, k - (6 - len3 n) = m + 1 := ⟨k - (6 - len3 n) - 1, by omega⟩
      have hd := digs_len n
      rw [hm, l5_end m _ _ (by omega) (by omega) (by omega) (by omega) (by omega), hd, List.drop_zero, show e - ((6 - len3 n : Nat) : Int) + ((6 : Nat) : Int) - 6 = e + (len3 n : Int) - 6 by omega]
      by_cases hr : -20 ≤ e + (len3 n : Int) - 6 ∧ e + (len3 n : Int) - 6 ≤ 20
      · rw [if_pos ((fl_digs hz).2 hr), if_pos hr]
      · rw [if_neg (fun h => hr ((fl_digs hz).1 h)), if_neg hr]
def divF (a : List Int) (ea : Int) (b : List Int) (eb : Int) : List Int × Int × Bool := if Fl a ea ∧ Fl b eb ∧ val b ≠ 0 then flo (bquo (val a * pow3 9) (val b)) (ea - eb - 9) else ([], 0, false)
theorem divF_len (a : List Int) (ea : Int) (b : List Int) (eb : Int) : (divF a ea b eb).1.length ≤ 6 := by
  unfold divF
  split
  · exact flo_len _ _
  · simp
theorem div_small {a : List Int} {ea : Int} {b : List Int} {eb : Int} (ha : Fl a ea) (hb : val b ≠ 0) : (-7164612 ≤ val a * pow3 9 ∧ val a * pow3 9 ≤ 7164612) ∧ -7164612 ≤ bquo (val a * pow3 9) (val b) ∧ bquo (val a * pow3 9) (val b) ≤ 7164612 := by
  have va := fl_val ha
  have m := mul_le (x := val a) (y := pow3 9) (a := 364) (b := 19683) va (by decide)
  have q := bquo_bd (n := val a * pow3 9) (d := val b) hb
  have q2 := abs3_le (d := val a * pow3 9) (B := 7164612) m.1 m.2
  exact ⟨m, by omega, by omega⟩
theorem impl_DivFloats_f (k : Nat) (a : List Int) (ea : Int) (b : List Int) (eb : Int) (hk : 3000001 ≤ k) (la : a.length ≤ 2000000) (lb : b.length ≤ 2000000) : impl_DivFloats.f k a ea b eb = some (divF a ea b eb) := by
  obtain ⟨k, rfl⟩ : ∃ m, k = m + 1 := ⟨k - 1, by omega⟩
  unfold impl_DivFloats.f divF
  rw [impl_IsFloat_f _ a ea (by omega) la, bsome]
  by_cases ha : Fl a ea
  · rw [if_pos (by simpa using ha), impl_IsFloat_f _ b eb (by omega) lb, bsome]
    by_cases hb : Fl b eb
    · have ra := ha.2.2
      have rb := hb.2.2
      have a6 := ha.1
      have b6 := hb.1
      have va := fl_val ha
      have vb := fl_val hb
      rw [if_pos (by simpa using hb), impl_highest_f _ b (by omega) (by omega) hb.2.1, bsome, impl_DivFloats.j0]
      by_cases hz : val b = 0
      · rw [if_pos (by rw [(sg_zero _).2 hz]; rfl), if_neg (fun h => h.2.2 hz)]
      · have q := div_small (eb := eb) ha hz
        have v30 : -lim 30 ≤ bquo (val a * pow3 9) (val b) ∧ bquo (val a * pow3 9) (val b) ≤ lim 30 := by rw [lim30]; omega
        rw [if_neg (by simpa using fun h => hz ((sg_zero _).1 h)), impl_value_f k a (by omega) (by omega) ha.2.1.digs, bsome, impl_power_f k 9 (by omega) (by omega), bsome, show (9 : Int).toNat = 9 from rfl, impl_value_f k b (by omega) (by omega) hb.2.1.digs, bsome, w64 (val a * pow3 9) (by omega) (by omega),
          impl_divided_f _ _ (by omega) (by omega) hz (by omega) (by omega), bsome, w64 (ea - eb) (by omega) (by omega), w64 _ (by omega) (by omega), impl_floated_f k _ _ (by omega) (by omega) (by omega), bsome, if_pos v30, if_pos ⟨ha, hb, hz⟩]
    · rw [if_neg (by simpa using hb), impl_DivFloats.j0, if_pos rfl, if_neg (fun h => hb h.2.1)]
  · rw [if_neg (by simpa using ha), impl_DivFloats.j0, if_pos rfl, if_neg (fun h => ha h.1)]
theorem spec_DivFloats_f (k : Nat) (a : List Int) (ea : Int) (b : List Int) (eb : Int) (hk : 3000001 ≤ k) (la : a.length ≤ 2000000) (lb : b.length ≤ 2000000) : spec_DivFloats.f k a ea b eb = some (divF a ea b eb) := by
  obtain ⟨k, rfl⟩ : ∃ m, k = m + 1 := ⟨k - 1, by omega⟩
  unfold spec_DivFloats.f divF
  rw [spec_IsFloat_f _ a ea (by omega) la, bsome]
  by_cases ha : Fl a ea
  · rw [if_pos (by simpa using ha), spec_IsFloat_f _ b eb (by omega) lb, bsome]
    by_cases hb : Fl b eb
    · have ra := ha.2.2
      have rb := hb.2.2
      have a6 := ha.1
      have b6 := hb.1
      have va := fl_val ha
      have vb := fl_val hb
      rw [if_pos (by simpa using hb), spec_l2Value_f _ b (by omega) (by omega) hb.2.1.digs, bsome, spec_DivFloats.j0]
      by_cases hz : val b = 0
      · rw [if_pos (by rw [hz]; rfl), if_neg (fun h => h.2.2 hz)]
      · have q := div_small (eb := eb) ha hz
        have v30 : -lim 30 ≤ bquo (val a * pow3 9) (val b) ∧ bquo (val a * pow3 9) (val b) ≤ lim 30 := by rw [lim30]; omega
        rw [if_neg (by simpa using hz), spec_l2Value_f k a (by omega) (by omega) ha.2.1.digs, bsome, spec_l5Lift_f k (val a) 9 (by omega) (by omega) (by omega) (by omega), bsome, show (9 : Int).toNat = 9 from rfl, spec_l2Value_f k b (by omega) (by omega) hb.2.1.digs, bsome,
          spec_l4Divide_f k _ _ (by omega) (by omega) (by omega) hz (by omega) (by omega), bsome, w64 (ea - eb) (by omega) (by omega), w64 _ (by omega) (by omega), spec_l5Of_f k _ _ (by omega) v30.1 v30.2 (by omega) (by omega), bsome, if_pos ⟨ha, hb, hz⟩]
    · rw [if_neg (by simpa using hb), spec_DivFloats.j0, if_pos rfl, if_neg (fun h => hb h.2.1)]
  · rw [if_neg (by simpa using ha), spec_DivFloats.j0, if_pos rfl, if_neg (fun h => ha h.1)]
end FnExactDivFloatsParts
open FnExactDivFloatsParts
attribute [local congr] bind_left

theorem FnExactDivFloats : laws_FnExactDivFloats.Pure := by
  intro l e l1 e1 hl _ hl1 _
  obtain ⟨K, hK⟩ : ∃ K, 100000000 ≤ K := ⟨_, Nat.le_refl _⟩
  refine ⟨K + 4, ?_⟩
  unfold laws_FnExactDivFloats.f
  rw [laws_szFloating_f l e _ hl.1 (by omega) (by omega), bsome]
  by_cases h : (1048576 : Int) < (l.length : Int)
  · rw [if_pos h, if_pos (by omega)]
  rw [if_neg h, if_neg (by omega), laws_szFloating_f l1 e1 _ hl1.1 (by omega) (by omega), bsome]
  by_cases h1 : (1048576 : Int) - (l.length : Int) < (l1.length : Int)
  · rw [if_pos h1, if_pos (by omega)]
  rw [if_neg h1, if_neg (by omega)]
  have f := fun k (hk : 3000002 ≤ k) => impl_DivFloats_f k l e l1 e1 (by omega) (by omega) (by omega)
  have g := fun k (hk : 3000002 ≤ k) => spec_DivFloats_f k l e l1 e1 (by omega) (by omega) (by omega)
  have hm := divF_len l e l1 e1
  generalize divF l e l1 e1 = r at *
  simp (disch := omega) only [↓if_pos, ↓if_neg, ↓reduceIte, bsome, laws_toFloating_f, f, g, laws_eqFloating_same, bne_self_eq_false, Bool.false_eq_true, laws_markFloating_f, laws_heldFloating_marks, laws_FnExactDivFloats.j0, laws_FnExactDivFloats.j1, laws_FnExactDivFloats.j2]

end Go.Proofs.Ytffhddibgfaopaa.Pure
