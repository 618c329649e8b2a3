/- For every text of draws: sums of redundant words keep their value, carries go one place, and the normal word has the same value; no condition. -/
import Derived.Test.YtcgfcnpiekcofaaPx25
import Derived.Test.YtcgfcnpiekcofaaGlue
namespace Go.Proofs.Ytcgfcnpiekcofaa.Pure
open Go.RowKit Go.Proofs.Ytcgfcnpiekcofaa.Tern Go.Proofs.Ytcgfcnpiekcofaa.P Go.Proofs.YtcgfcnpiekcofaaW.PrintWords Go.Proofs.YtcgfcnpiekcofaaW.PrintLast
set_option linter.unusedVariables false
set_option linter.unusedSimpArgs false

namespace FnRedundantParts
theorem impl_IsTrit_f (a : Int) : impl_IsTrit.f a = some (decide (Trit a)) := by
  unfold impl_IsTrit.f Trit
  split
  · rename_i h
    simp [show -1 ≤ a from h]
  · rename_i h
    have : ¬ (-1 ≤ a) := h
    simp [this]
theorem spec_l1In_f (x a b : Int) : spec_l1In.f x a b = some (decide (a ≤ x ∧ x ≤ b)) := by
  unfold spec_l1In.f
  split
  · rename_i h
    simp [show a ≤ x from h]
  · rename_i h
    have : ¬ (a ≤ x) := h
    simp [this]
theorem impl_trits_l0 (l : List Int) (hl : l.length ≤ 2000000) : ∀ (d k i : Nat), i + d = l.length → d < k →
    impl_trits.l0 k l (l.length : Int) (i : Int) = some (decide (Trits (l.drop i))) := by
  intro d
  induction d with
  | zero =>
    intro k i h hk
    obtain ⟨k, rfl⟩ : ∃ m, k = m + 1 := ⟨k - 1, by omega⟩
    simp only [impl_trits.l0]
    rw [if_neg (by omega), List.drop_eq_nil_of_le (by omega)]
    simp [Trits.nil]
  | succ d ih =>
    intro k i h hk
    obtain ⟨k, rfl⟩ : ∃ m, k = m + 1 := ⟨k - 1, by omega⟩
    simp only [impl_trits.l0]
    rw [if_pos (by omega), if_pos (by omega), if_pos (by omega), impl_IsTrit_f, drop_rd l i (by omega)]
    simp only [bsome, Trits.cons]
    by_cases ht : Trit (rd l (i : Int))
    · rw [if_pos (by simpa using ht), w64 _ (by omega) (by omega)]
      have := ih k (i + 1) (by omega) (by omega)
      rw [show ((i + 1 : Nat) : Int) = (i : Int) + 1 from by omega] at this
      rw [this]; simp [ht]
    · rw [if_neg (by simpa using ht)]; simp [ht]
theorem impl_trits_f (k : Nat) (l : List Int) (hk : 2000001 ≤ k) (hl : l.length ≤ 2000000) : impl_trits.f k l = some (decide (Trits l)) := by
  unfold impl_trits.f
  have := impl_trits_l0 l hl l.length k 0 (by omega) (by omega)
  simpa using this
theorem impl_IsWord_f (k : Nat) (l : List Int) (hk : 2000001 ≤ k) (hl : l.length ≤ 2000000) : impl_IsWord.f k l = some (decide (Word l)) := by
  unfold impl_IsWord.f Word
  rw [impl_trits_f k l hk hl]
  by_cases h1 : 1 ≤ l.length
  · rw [if_pos (by omega)]
    by_cases h2 : l.length ≤ 30
    · rw [if_pos (by omega)]; simp [h1, h2]
    · rw [if_neg (by omega)]; simp [h2]
  · rw [if_neg (by omega)]; simp [h1]
theorem impl_value_l0 (l : List Int) (hl : l.length ≤ 30) (hb : Digs l) : ∀ (n k : Nat) (x : Int), n ≤ l.length → n < k → x = (n : Int) - 1 →
    impl_value.l0 k l (val (l.drop n)) x = some (val l) := by
  intro n
  induction n with
  | zero =>
    intro k x h hk hx
    obtain ⟨k, rfl⟩ : ∃ m, k = m + 1 := ⟨k - 1, by omega⟩
    simp only [impl_value.l0]
    rw [if_neg (by omega), List.drop_zero]
  | succ n ih =>
    intro k x h hk hx
    obtain ⟨k, rfl⟩ : ∃ m, k = m + 1 := ⟨k - 1, by omega⟩
    obtain rfl : x = (n : Int) := by omega
    have b1 := val_drop_bd l hl hb (n + 1)
    have b2 := hb _ (rd_mem l n (by omega))
    simp only [impl_value.l0]
    rw [if_pos (by omega), if_pos (by omega), if_pos (by omega), w64 (3 * _) (by omega) (by omega), w64 _ (by omega) (by omega), w64 _ (by omega) (by omega)]
    have e : val (l.drop n) = 3 * val (l.drop (n + 1)) + rd l (n : Int) := by rw [drop_rd l n (by omega)]; simp only [val]; omega
    rw [← e]
    exact ih k _ (by omega) (by omega) rfl
theorem impl_value_f (k : Nat) (l : List Int) (hk : 31 ≤ k) (hl : l.length ≤ 30) (hb : Digs l) : impl_value.f k l = some (val l) := by
  unfold impl_value.f
  have := impl_value_l0 l hl hb l.length k (wrap64 ((l.length : Int) - 1)) (Nat.le_refl _) (by omega) (w64 _ (by omega) (by omega))
  rw [List.drop_length] at this
  exact this
theorem spec_l2Value_l0 (l : List Int) (hl : l.length ≤ 30) (hb : Digs l) : ∀ (n k : Nat) (x : Int), n ≤ l.length → n < k → x = (n : Int) - 1 →
    spec_l2Value.l0 k l (val (l.drop n)) x = some (val l) := by
  intro n
  induction n with
  | zero =>
    intro k x h hk hx
    obtain ⟨k, rfl⟩ : ∃ m, k = m + 1 := ⟨k - 1, by omega⟩
    simp only [spec_l2Value.l0]
    rw [if_neg (by omega), List.drop_zero]
  | succ n ih =>
    intro k x h hk hx
    obtain ⟨k, rfl⟩ : ∃ m, k = m + 1 := ⟨k - 1, by omega⟩
    obtain rfl : x = (n : Int) := by omega
    have b1 := val_drop_bd l hl hb (n + 1)
    have b2 := hb _ (rd_mem l n (by omega))
    simp only [spec_l2Value.l0]
    rw [if_pos (by omega), if_pos (by omega), if_pos (by omega), w64 (3 * _) (by omega) (by omega), w64 _ (by omega) (by omega), w64 _ (by omega) (by omega)]
    have e : val (l.drop n) = 3 * val (l.drop (n + 1)) + rd l (n : Int) := by rw [drop_rd l n (by omega)]; simp only [val]; omega
    rw [← e]
    exact ih k _ (by omega) (by omega) rfl
theorem spec_l2Value_f (k : Nat) (l : List Int) (hk : 31 ≤ k) (hl : l.length ≤ 30) (hb : Digs l) : spec_l2Value.f k l = some (val l) := by
  unfold spec_l2Value.f
  have := spec_l2Value_l0 l hl hb l.length k (wrap64 ((l.length : Int) - 1)) (Nat.le_refl _) (by omega) (w64 _ (by omega) (by omega))
  rw [List.drop_length] at this
  exact this
theorem impl_ValueOf_f (k : Nat) (l : List Int) (hk : 2000001 ≤ k) (hl : l.length ≤ 2000000) : impl_ValueOf.f k l = some (if Word l then val l else 0) := by
  unfold impl_ValueOf.f
  rw [impl_IsWord_f k l hk hl]
  by_cases h : Word l
  · simp [h, impl_value_f k l (by omega) h.2.1 h.2.2.digs]
  · simp [h]
theorem impl_power_l0 (a : Int) (ha : a ≤ 30) : ∀ (d k i : Nat), (i : Int) + d = a → d < k → impl_power.l0 k (pow3 i) a (i : Int) = some (pow3 a.toNat) := by
  intro d
  induction d with
  | zero =>
    intro k i h hk
    obtain ⟨k, rfl⟩ : ∃ m, k = m + 1 := ⟨k - 1, by omega⟩
    simp only [impl_power.l0]
    rw [if_neg (by omega), show a.toNat = i from by omega]
  | succ d ih =>
    intro k i h hk
    obtain ⟨k, rfl⟩ : ∃ m, k = m + 1 := ⟨k - 1, by omega⟩
    have h1 := pow3_pos i
    have h2 : pow3 i ≤ pow3 30 := pow3_mono (by omega)
    rw [pow3_30] at h2
    simp only [impl_power.l0]
    rw [if_pos (by omega), w64 _ (by omega) (by omega), w64 _ (by omega) (by omega)]
    have := ih k (i + 1) (by omega) (by omega)
    simp only [pow3] at this
    rw [show pow3 i * 3 = 3 * pow3 i from by omega, show (i : Int) + 1 = ((i + 1 : Nat) : Int) from by omega]
    exact this
theorem impl_power_f (k : Nat) (a : Int) (hk : 31 ≤ k) (ha : a ≤ 30) : impl_power.f k a = some (pow3 a.toNat) := by
  unfold impl_power.f
  by_cases h : 0 ≤ a
  · exact impl_power_l0 a ha a.toNat k 0 (by omega) (by omega)
  · obtain ⟨k, rfl⟩ : ∃ m, k = m + 1 := ⟨k - 1, by omega⟩
    simp only [impl_power.l0]
    rw [if_neg (by omega), show a.toNat = 0 from by omega]; rfl
theorem impl_LimitOf_f (k : Nat) (a : Int) (hk : 31 ≤ k) : impl_LimitOf.f k a = some (if 1 ≤ a ∧ a ≤ 30 then lim a.toNat else 0) := by
  unfold impl_LimitOf.f
  by_cases h1 : a < 1
  · rw [if_pos h1, if_neg (by omega)]
  · rw [if_neg h1]
    by_cases h2 : a > 30
    · rw [if_pos h2, if_neg (by omega)]
    · rw [if_neg h2, impl_power_f k a hk (by omega), if_pos (by omega)]
      have h3 := pow3_lim a.toNat
      have h4 := lim_nonneg a.toNat
      have h5 : lim a.toNat ≤ lim 30 := lim_mono (by omega)
      rw [lim30] at h5
      simp only [bsome]
      rw [w64 (pow3 _ - 1) (by omega) (by omega), h3, show 2 * lim a.toNat + 1 - 1 = 2 * lim a.toNat from by omega, Int.mul_tdiv_cancel_left _ (by omega), w64 _ (by omega) (by omega)]
theorem impl_fits_f (k : Nat) (n a : Int) (hk : 31 ≤ k) (h1 : 1 ≤ a) (h2 : a ≤ 30) : impl_fits.f k n a = some (decide (-lim a.toNat ≤ n ∧ n ≤ lim a.toNat)) := by
  unfold impl_fits.f
  have h4 := lim_nonneg a.toNat
  have h5 : lim a.toNat ≤ lim 30 := lim_mono (by omega)
  rw [lim30] at h5
  rw [impl_LimitOf_f k a hk, if_pos ⟨h1, h2⟩]
  simp only [bsome]
  rw [w64 _ (by omega) (by omega)]
  by_cases h : n ≥ -lim a.toNat
  · rw [if_pos h]; simp [show -lim a.toNat ≤ n from h]
  · rw [if_neg h]
    have : ¬ -lim a.toNat ≤ n := h
    simp [this]
theorem impl_carried_tmod (n : Int) : ∃ c, impl_carried.f (Int.tmod n 3) = some (low3 n, c) := by
  unfold impl_carried.f low3
  rcases Int.le_total 0 n with h | h
  · rw [tmod3_nonneg n h]
    split
    · rw [w64 _ (by omega) (by omega)]; exact ⟨1, by congr 2; omega⟩
    · rw [if_neg (by omega)]; exact ⟨0, by congr 2; omega⟩
  · have e2 := tmod3_nonpos n h
    rw [e2]
    split
    · omega
    · split
      · rw [w64 _ (by omega) (by omega)]; exact ⟨-1, by congr 2; omega⟩
      · exact ⟨0, by congr 2; omega⟩
theorem tdiv_low3 (n : Int) : Int.tdiv (n - low3 n) 3 = rest3 n := by
  have := low3_rest3 n
  rw [show n - low3 n = 3 * rest3 n from by omega, Int.mul_tdiv_cancel_left _ (by omega)]
theorem rest3_bd (n B : Int) (hB : 0 ≤ B) (h0 : -B ≤ n) (h1 : n ≤ B) : -B ≤ rest3 n ∧ rest3 n ≤ B := by unfold rest3; omega
theorem impl_WordOf_l0 (a : Int) (ha : a ≤ 30) : ∀ (d k i : Nat) (n : Int) (acc : List Int), (i : Int) + d = a → d < k → acc.length = i → -1000000000000000000 ≤ n → n ≤ 1000000000000000000 →
    impl_WordOf.l0 k n acc a (i : Int) = some (acc ++ word n d, true) := by
  intro d
  induction d with
  | zero =>
    intro k i n acc h hk hl h0 h1
    obtain ⟨k, rfl⟩ : ∃ m, k = m + 1 := ⟨k - 1, by omega⟩
    simp only [impl_WordOf.l0]
    rw [if_neg (by omega)]; simp [word]
  | succ d ih =>
    intro k i n acc h hk hl h0 h1
    obtain ⟨k, rfl⟩ : ∃ m, k = m + 1 := ⟨k - 1, by omega⟩
    obtain ⟨c, hc⟩ := impl_carried_tmod n
    have ht := low3_trit n
    unfold Trit at ht
    have hu := rest3_bd n 1000000000000000000 (by omega) (by omega) h1
    simp only [impl_WordOf.l0]
    rw [if_pos (by omega), hc]
    simp only [bsome]
    rw [if_pos (by omega), w64 (n - low3 n) (by omega) (by omega), tdiv_low3, w64 (rest3 n) (by omega) (by omega), w64 _ (by omega) (by omega), show (i : Int) + 1 = ((i + 1 : Nat) : Int) from by omega,
      ih k (i + 1) (rest3 n) (acc ++ [low3 n]) (by omega) (by omega) (by simp [hl]) hu.1 hu.2]
    simp [word]
theorem impl_WordOf_f (k : Nat) (n a : Int) (hk : 40 ≤ k) (ha : -9223372036854775808 ≤ a) : impl_WordOf.f k n a = some (wordOf n a) := by
  obtain ⟨k, rfl⟩ : ∃ m, k = m + 1 := ⟨k - 1, by omega⟩
  unfold impl_WordOf.f wordOf
  by_cases h1 : a < 1
  · rw [if_pos h1, if_neg (by omega)]; simp only [impl_WordOf.j0]; rfl
  · rw [if_neg h1]
    by_cases h2 : a > 30
    · rw [if_pos h2, if_neg (by omega)]; simp only [impl_WordOf.j0]; rfl
    · rw [if_neg h2, impl_fits_f _ n a (by omega) (by omega) (by omega)]
      simp only [bsome, impl_WordOf.j0]
      have h5 : lim a.toNat ≤ lim 30 := lim_mono (by omega)
      rw [lim30] at h5
      by_cases h : -lim a.toNat ≤ n ∧ n ≤ lim a.toNat
      · rw [if_neg (by simpa using h), if_pos ⟨by omega, by omega, h⟩]
        have := impl_WordOf_l0 a (by omega) a.toNat k 0 n [] (by omega) (by omega) rfl (by omega) (by omega)
        simpa using this
      · rw [if_pos (by rw [decide_eq_false h]; rfl), if_neg (fun hh => h hh.2.2)]
theorem spec_l2Word_l0 (a : Int) (ha : a ≤ 30) : ∀ (d k i : Nat) (n : Int) (acc : List Int), (i : Int) + d = a → d < k → acc.length = i → -1000000000000000000 ≤ n → n ≤ 1000000000000000000 →
    spec_l2Word.l0 k n a acc (i : Int) = some (acc ++ word n d) := by
  intro d
  induction d with
  | zero =>
    intro k i n acc h hk hl h0 h1
    obtain ⟨k, rfl⟩ : ∃ m, k = m + 1 := ⟨k - 1, by omega⟩
    simp only [spec_l2Word.l0]
    rw [if_neg (by omega)]; simp [word]
  | succ d ih =>
    intro k i n acc h hk hl h0 h1
    obtain ⟨k, rfl⟩ : ∃ m, k = m + 1 := ⟨k - 1, by omega⟩
    have ht := low3_trit n
    unfold Trit at ht
    have hu := rest3_bd n 1000000000000000000 (by omega) (by omega) h1
    have fin : spec_l2Word.l0 k (wrap64 (Int.tdiv (wrap64 (n - low3 n)) 3)) a (acc ++ [low3 n]) (wrap64 ((i : Int) + 1)) = some (acc ++ word n (d + 1)) := by
      rw [w64 (n - low3 n) (by omega) (by omega), tdiv_low3, w64 (rest3 n) (by omega) (by omega), w64 _ (by omega) (by omega), show (i : Int) + 1 = ((i + 1 : Nat) : Int) from by omega,
        ih k (i + 1) (rest3 n) (acc ++ [low3 n]) (by omega) (by omega) (by simp [hl]) hu.1 hu.2]
      simp [word]
    simp only [spec_l2Word.l0]
    rw [if_pos (by omega)]
    rcases Int.le_total 0 n with h | h
    · have e2 := tmod3_nonneg n h
      rw [e2]
      by_cases c : n % 3 > 1
      · rw [if_pos c, w64 (n % 3 - 3) (by omega) (by omega), if_neg (by omega), if_pos (by omega), show n % 3 - 3 = low3 n from by unfold low3; omega]
        exact fin
      · rw [if_neg c, if_neg (by omega), if_pos (by omega), show n % 3 = low3 n from by unfold low3; omega]
        exact fin
    · have e2 := tmod3_nonpos n h
      rw [e2, if_neg (by omega)]
      by_cases c : -((-n) % 3) < -1
      · rw [if_pos c, if_pos (by omega), w64 (-(-n % 3) + 3) (by omega) (by omega), show -(-n % 3) + 3 = low3 n from by unfold low3; omega]
        exact fin
      · rw [if_neg c, if_pos (by omega), show -(-n % 3) = low3 n from by unfold low3; omega]
        exact fin
theorem spec_l2Word_f (k : Nat) (n a : Int) (hk : 40 ≤ k) (ha0 : 0 ≤ a) (ha : a ≤ 30) (h0 : -1000000000000000000 ≤ n) (h1 : n ≤ 1000000000000000000) : spec_l2Word.f k n a = some (word n a.toNat) := by
  unfold spec_l2Word.f
  have := spec_l2Word_l0 a ha a.toNat k 0 n [] (by omega) (by omega) rfl h0 h1
  simpa using this
theorem spec_LimitOf_l0 (a : Int) (ha : a ≤ 30) : ∀ (d k i : Nat), (i : Int) + d = a → d < k → spec_LimitOf.l0 k a (lim i) (i : Int) = some (lim a.toNat) := by
  intro d
  induction d with
  | zero =>
    intro k i h hk
    obtain ⟨k, rfl⟩ : ∃ m, k = m + 1 := ⟨k - 1, by omega⟩
    simp only [spec_LimitOf.l0]
    rw [if_neg (by omega), show a.toNat = i from by omega]
  | succ d ih =>
    intro k i h hk
    obtain ⟨k, rfl⟩ : ∃ m, k = m + 1 := ⟨k - 1, by omega⟩
    have h1 := lim_nonneg i
    have h2 : lim i ≤ lim 30 := lim_mono (by omega)
    rw [lim30] at h2
    simp only [spec_LimitOf.l0]
    rw [if_pos (by omega), w64 (3 * lim i) (by omega) (by omega), w64 _ (by omega) (by omega), w64 _ (by omega) (by omega), show (i : Int) + 1 = ((i + 1 : Nat) : Int) from by omega]
    exact ih k (i + 1) (by omega) (by omega)
theorem spec_LimitOf_f (k : Nat) (a : Int) (hk : 31 ≤ k) : spec_LimitOf.f k a = some (if 1 ≤ a ∧ a ≤ 30 then lim a.toNat else 0) := by
  unfold spec_LimitOf.f
  rw [spec_l1In_f, bsome]
  by_cases h : 1 ≤ a ∧ a ≤ 30
  · rw [if_pos (by simpa using h), if_pos h]
    exact spec_LimitOf_l0 a (by omega) a.toNat k 0 (by omega) (by omega)
  · rw [if_neg (by simpa using h), if_neg h]
theorem spec_WordOf_f (k : Nat) (n a : Int) (hk : 40 ≤ k) : spec_WordOf.f k n a = some (wordOf n a) := by
  unfold spec_WordOf.f wordOf
  rw [spec_l1In_f, bsome]
  by_cases h : 1 ≤ a ∧ a ≤ 30
  · have h1 := lim_nonneg a.toNat
    have h2 : lim a.toNat ≤ lim 30 := lim_mono (by omega)
    rw [lim30] at h2
    rw [if_pos (by simpa using h), spec_LimitOf_f k a (by omega), if_pos h, bsome, bsome, w64 _ (by omega) (by omega), spec_l1In_f, bsome]
    by_cases h3 : -lim a.toNat ≤ n ∧ n ≤ lim a.toNat
    · rw [if_pos (by simpa using h3), if_pos ⟨h.1, h.2, h3⟩, spec_l2Word_f k n a hk (by omega) (by omega) (by omega) (by omega), bsome]
    · rw [if_neg (by rw [decide_eq_false h3]; decide), if_neg (fun hh => h3 hh.2.2)]
  · rw [if_neg (by rw [decide_eq_false h]; decide), if_neg (fun hh => h ⟨hh.1, hh.2.1⟩)]
theorem bits_and255 (x : Int) : 0 ≤ Go.bits .and .i64 x 255 ∧ Go.bits .and .i64 x 255 ≤ 255 := by
  have h : (BitVec.ofInt 64 x &&& BitVec.ofInt 64 255).toNat ≤ 255 := by
    rw [BitVec.toNat_and]
    exact Nat.le_trans Nat.and_le_right (by decide)
  have e : Go.bits .and .i64 x 255 = IntKind.i64.wrap ((BitVec.ofInt 64 x &&& BitVec.ofInt 64 255).toNat : Int) := rfl
  rw [e, IntKind.wrap_i64]
  omega
theorem spec_l01Byte_f (b : List Int) (i h : Int) (hb : b.length ≤ 2000000) (hi : 0 ≤ i) : ∃ r i' h', spec_l01Byte.f b i h = some (r, i', h') ∧ (0 ≤ r ∧ r ≤ 255) ∧ 0 ≤ i' := by
  unfold spec_l01Byte.f
  by_cases c : i < (b.length : Int)
  · rw [if_pos c, if_pos hi, w64 (i + 1) (by omega) (by omega)]
    exact ⟨_, _, _, rfl, bits_and255 _, by omega⟩
  · rw [if_neg c]
    exact ⟨_, _, _, rfl, bits_and255 _, hi⟩
theorem spec_l01Below_f (b : List Int) (i h n : Int) (hb : b.length ≤ 2000000) (hi : 0 ≤ i) (h1 : 1 ≤ n) (h2 : n ≤ 256) : ∃ r i' h', spec_l01Below.f b i h n = some (r, i', h') ∧ (0 ≤ r ∧ r < n) ∧ 0 ≤ i' := by
  obtain ⟨r, i', h', e, hr, hi'⟩ := spec_l01Byte_f b i h hb hi
  unfold spec_l01Below.f
  rw [if_neg (by omega), if_pos h2, e, bsome, if_neg (by omega)]
  refine ⟨_, _, _, rfl, ?_, hi'⟩
  show 0 ≤ Int.tmod r n ∧ Int.tmod r n < n
  exact (tmod_range (n := r) (by omega)).1 hr.1
theorem spec_l01New_f (k : Nat) (l : List Int) (hk : 2000002 ≤ k) (hl : l.length ≤ 2000000) : ∃ h, spec_l01New.f k l = some (l, 0, h) := by
  have key : ∀ (d k i : Nat) (h : Int), i + d = l.length → d < k → ∃ h', spec_l01New.l0 k l h (i : Int) = some (l, 0, h') := by
    intro d
    induction d with
    | zero =>
      intro k i h e hk
      obtain ⟨k, rfl⟩ : ∃ m, k = m + 1 := ⟨k - 1, by omega⟩
      rw [spec_l01New.l0, if_neg (by omega)]
      exact ⟨_, rfl⟩
    | succ d ih =>
      intro k i h e hk
      obtain ⟨k, rfl⟩ : ∃ m, k = m + 1 := ⟨k - 1, by omega⟩
      rw [spec_l01New.l0, if_pos (by omega)]
      by_cases c : (i : Int) < 4000
      · rw [if_pos c, if_pos (by omega), w64 ((i : Int) + 1) (by omega) (by omega), show (i : Int) + 1 = ((i + 1 : Nat) : Int) from by omega]
        exact ih k (i + 1) _ (by omega) (by omega)
      · rw [if_neg c]
        exact ⟨_, rfl⟩
  unfold spec_l01New.f
  exact key l.length k 0 _ (by omega) (by omega)
theorem laws_fresh_f (k : Nat) (l : List Int) (m : Int) (hk : 2000002 ≤ k) (hl : l.length ≤ 2000000) : ∃ c, laws_fresh.f k l m = some c ∧ c.length ≤ 1000 := by
  have key : ∀ (d k i : Nat) (acc : List Int), i + d = l.length → d < k → acc.length = i + 1 → i ≤ 600 → ∃ c, laws_fresh.l0 k l m acc (i : Int) = some c ∧ c.length ≤ 1000 := by
    intro d
    induction d with
    | zero =>
      intro k i acc e hk ha hi
      obtain ⟨k, rfl⟩ : ∃ m, k = m + 1 := ⟨k - 1, by omega⟩
      rw [laws_fresh.l0, if_neg (by omega)]
      exact ⟨acc, rfl, by omega⟩
    | succ d ih =>
      intro k i acc e hk ha hi
      obtain ⟨k, rfl⟩ : ∃ m, k = m + 1 := ⟨k - 1, by omega⟩
      rw [laws_fresh.l0, if_pos (by omega)]
      by_cases c : (i : Int) < 600
      · rw [if_pos c, if_pos (by omega), if_pos (by omega), w64 ((i : Int) + 1) (by omega) (by omega), show (i : Int) + 1 = ((i + 1 : Nat) : Int) from by omega]
        exact ih k (i + 1) _ (by omega) (by omega) (by simp [ha]) (by omega)
      · rw [if_neg c]
        exact ⟨acc, rfl, by omega⟩
  unfold laws_fresh.f
  exact key l.length k 0 _ (by omega) (by omega) (by simp) (by omega)
theorem laws_at_f (l : List Int) (i : Int) (hl : l.length ≤ 2000000) (hw : ∀ x ∈ l, (Lit.int .u8 x).wf = true) (h0 : 0 ≤ i) (h1 : i ≤ 1000) : ∃ v, laws_at.f l i = some v ∧ 0 ≤ v ∧ v ≤ 255 := by
  unfold laws_at.f
  by_cases c : i < (l.length : Int)
  · have := wf8 (hw _ (rd_mem l i.toNat (by omega)))
    rw [show ((i.toNat : Nat) : Int) = i from by omega] at this
    rw [if_pos c, if_pos h0, w64 _ (by omega) (by omega)]
    exact ⟨_, rfl, this⟩
  · rw [if_neg c, w64 (i * 37) (by omega) (by omega), w64 ((l.length : Int) * 11) (by omega) (by omega), w64 _ (by omega) (by omega)]
    have := (tmod_range (n := i * 37 + (l.length : Int) * 11) (m := 256) (by omega)).1 (by omega)
    exact ⟨_, rfl, by omega, by omega⟩
theorem word_word (n : Int) (k : Nat) (h1 : 1 ≤ k) (h2 : k ≤ 30) : Word (word n k) := ⟨by rw [length_word]; exact h1, by rw [length_word]; exact h2, trits_word n k⟩
theorem impl_carried_f (n : Int) (h0 : -4 ≤ n) (h1 : n ≤ 4) : impl_carried.f n = some (low3 n, rest3 n) := by
  unfold impl_carried.f low3 rest3
  by_cases h : n > 1
  · rw [if_pos h, w64 _ (by omega) (by omega)]
    refine congrArg some (Prod.ext ?_ ?_) <;> simp only <;> omega
  · rw [if_neg h]
    by_cases h' : n < -1
    · rw [if_pos h', w64 _ (by omega) (by omega)]
      refine congrArg some (Prod.ext ?_ ?_) <;> simp only <;> omega
    · rw [if_neg h']
      refine congrArg some (Prod.ext ?_ ?_) <;> simp only <;> omega
theorem spec_IsRedundant_l0 (l : List Int) (hl : l.length ≤ 2000000) : ∀ (d k i : Nat), i + d = l.length → d < k →
    spec_IsRedundant.l0 k l l (l.length : Int) (i : Int) = some (decide (1 ≤ l.length ∧ l.length ≤ 30 ∧ Digs (l.drop i))) := by
  intro d
  induction d with
  | zero =>
    intro k i h hk
    obtain ⟨k, rfl⟩ : ∃ m, k = m + 1 := ⟨k - 1, by omega⟩
    rw [spec_IsRedundant.l0, if_neg (by omega), List.drop_eq_nil_of_le (by omega), spec_l1In_f, bsome]
    have : Digs [] := fun a ha => by simp at ha
    simp only [this, and_true]
    congr 1
    apply decide_eq_decide.2
    omega
  | succ d ih =>
    intro k i h hk
    obtain ⟨k, rfl⟩ : ∃ m, k = m + 1 := ⟨k - 1, by omega⟩
    rw [spec_IsRedundant.l0, if_pos (by omega), if_pos (by omega), if_pos (by omega), spec_l1In_f, bsome, drop_rd l i (by omega)]
    by_cases h1 : -2 ≤ rd l (i : Int) ∧ rd l (i : Int) ≤ 2
    · rw [if_pos (by simpa using h1), w64 _ (by omega) (by omega), show ((i : Int) + 1) = ((i + 1 : Nat) : Int) from by omega, ih k (i + 1) (by omega) (by omega)]
      simp only [Digs.cons, h1, and_self, true_and]
    · rw [if_neg (by simpa using h1)]
      simp only [Digs.cons, h1, false_and, and_false, decide_false]
theorem spec_IsRedundant_f (k : Nat) (l : List Int) (hk : 2000001 ≤ k) (hl : l.length ≤ 2000000) : spec_IsRedundant.f k l = some (decide (Red l)) := by
  unfold spec_IsRedundant.f Red
  exact spec_IsRedundant_l0 l hl l.length k 0 (by omega) (by omega)
theorem impl_IsRedundant_f (l : List Int) : impl_IsRedundant.f l = some (decide (Red l)) := by
  unfold impl_IsRedundant.f
  exact congrArg some (decide_eq_decide.2 Iff.rfl)
def normOf (w : List Int) : List Int × Bool := if Red w then wordOf (val w) w.length else ([], false)
theorem spec_NormalRedundant_f (k : Nat) (l : List Int) (hk : 2000001 ≤ k) (hl : l.length ≤ 2000000) : spec_NormalRedundant.f k l = some (normOf l) := by
  unfold spec_NormalRedundant.f normOf
  rw [spec_IsRedundant_f k l hk hl, bsome]
  by_cases h : Red l
  · rw [if_pos (by simpa using h), if_pos h, spec_l2Value_f k l (by omega) h.2.1 h.2.2, bsome, spec_WordOf_f k _ _ (by omega), bsome]
  · rw [if_neg (by simpa using h), if_neg h]
theorem impl_NormalRedundant_f (k : Nat) (l : List Int) (hk : 2000001 ≤ k) (hl : l.length ≤ 2000000) : impl_NormalRedundant.f k l = some (normOf l) := by
  unfold impl_NormalRedundant.f normOf
  rw [impl_IsRedundant_f l, bsome]
  by_cases h : Red l
  · rw [if_pos (by simpa using h), if_pos h, impl_value_f k l (by omega) h.2.1 h.2.2, bsome, impl_WordOf_f k _ _ (by omega) (by omega), bsome]
  · rw [if_neg (by simpa using h), if_neg h]
theorem spec_MakeDigits_f (k : Nat) (l : List Int) (m : Int) (hk : 2000002 ≤ k) (hl : l.length ≤ 2000000) (h1 : 1 ≤ m) (h2 : m ≤ 30) : ∃ w, spec_MakeDigits.f k l m = some w ∧ Red w ∧ (w.length : Int) = m := by
  obtain ⟨h, e⟩ := spec_l01New_f k l hk hl
  have em : mx 1 (mn m 30) = m := by unfold mx mn; split <;> split <;> omega
  have key : ∀ (d k j : Nat) (acc : List Int) (i h : Int), (j : Int) + d = m → d < k → acc.length = j → Digs acc → 0 ≤ i → ∃ w, spec_MakeDigits.l0 k m acc (j : Int) l i h = some w ∧ (w.length : Int) = m ∧ Digs w := by
    intro d
    induction d with
    | zero =>
      intro k j acc i h e hk ha ht hi
      obtain ⟨k, rfl⟩ : ∃ m, k = m + 1 := ⟨k - 1, by omega⟩
      rw [spec_MakeDigits.l0, em, if_neg (by omega)]
      exact ⟨acc, rfl, by omega, ht⟩
    | succ d ih =>
      intro k j acc i h e hk ha ht hi
      obtain ⟨k, rfl⟩ : ∃ m, k = m + 1 := ⟨k - 1, by omega⟩
      obtain ⟨r, i', h', er, hr, hi'⟩ := spec_l01Below_f l i h 5 hl hi (by omega) (by omega)
      rw [spec_MakeDigits.l0, em, if_pos (by omega), er, bsome, if_pos (by omega), w64 _ (by omega) (by omega), w64 _ (by omega) (by omega), show ((j : Int) + 1) = ((j + 1 : Nat) : Int) from by omega]
      refine ih k (j + 1) _ i' h' (by omega) (by omega) (by simp; omega) ?_ hi'
      intro x hx
      rcases List.mem_append.1 hx with hx | hx
      · exact ht x hx
      · rw [List.mem_singleton.1 hx]
        omega
  unfold spec_MakeDigits.f
  rw [e, bsome]
  obtain ⟨w, ew, lw, tw⟩ := key m.toNat k 0 [] 0 h (by omega) (by omega) rfl (fun x hx => by simp at hx) (by omega)
  exact ⟨w, ew, ⟨by omega, by omega, tw⟩, lw⟩
def addR (c : Int) : List Int → List Int → List Int
  | x :: xs, y :: ys => (low3 (x + y) + c) :: addR (rest3 (x + y)) xs ys
  | _, _ => [c]
theorem addR_val (a : List Int) : ∀ (b : List Int) (c : Int), a.length = b.length → Digs a → Digs b → Trit c → val (addR c a b) = val a + val b + c ∧ Digs (addR c a b) ∧ (addR c a b).length = a.length + 1 := by
  induction a with
  | nil =>
    intro b c h _ _ hc
    cases b with
    | nil =>
      refine ⟨by simp [addR, val], ?_, rfl⟩
      intro x hx
      rw [List.mem_singleton.1 hx]
      unfold Trit at hc; omega
    | cons y ys => simp at h
  | cons x xs ih =>
    intro b c h ha hb hc
    cases b with
    | nil => simp at h
    | cons y ys =>
      have hx := (Digs.cons.1 ha).1
      have hy := (Digs.cons.1 hb).1
      have h1 : Trit (rest3 (x + y)) := by unfold Trit rest3 at *; omega
      have := ih ys (rest3 (x + y)) (by simpa using h) (Digs.cons.1 ha).2 (Digs.cons.1 hb).2 h1
      have e2 := low3_rest3 (x + y)
      have e3 := low3_trit (x + y)
      refine ⟨?_, Digs.cons.2 ⟨by unfold Trit at *; omega, this.2.1⟩, by simp [addR, this.2.2]⟩
      simp only [addR, val, this.1]
      omega
theorem addR_carry (a b : List Int) (c c' : Int) (j : Nat) : (addR c a b).getD (j + 1) 0 = (addR c' a b).getD (j + 1) 0 := by
  cases a with
  | nil => simp [addR]
  | cons x xs =>
    cases b with
    | nil => simp [addR]
    | cons y ys => simp [addR]
theorem addR_set (a : List Int) : ∀ (b : List Int) (c v : Int) (i j : Nat), j ≠ i → j ≠ i + 1 → (addR c (a.set i v) b).getD j 0 = (addR c a b).getD j 0 := by
  induction a with
  | nil => intro b c v i j _ _; rfl
  | cons x xs ih =>
    intro b c v i j h1 h2
    cases b with
    | nil => cases i <;> simp [addR]
    | cons y ys =>
      cases i with
      | zero =>
        obtain ⟨j, rfl⟩ : ∃ m, j = m + 2 := ⟨j - 2, by omega⟩
        simp only [List.set_cons_zero, addR, List.getD_cons_succ]
        exact addR_carry xs ys _ _ j
      | succ i =>
        simp only [List.set_cons_succ, addR]
        cases j with
        | zero => simp
        | succ j =>
          simp only [List.getD_cons_succ]
          exact ih ys _ v i j (by omega) (by omega)
theorem impl_AddRedundant_l0 (a b : List Int) (hl : a.length ≤ 30) (hb : a.length = b.length) (ta : Digs a) (tb : Digs b) : ∀ (d k i : Nat) (c : Int) (u : List Int), i + d = a.length → d < k → u.length ≤ i → Trit c →
    impl_AddRedundant.l0 k a b u c (a.length : Int) (i : Int) = some (u ++ addR c (a.drop i) (b.drop i), true) := by
  intro d
  induction d with
  | zero =>
    intro k i c u h hk hu hc
    obtain ⟨k, rfl⟩ : ∃ m, k = m + 1 := ⟨k - 1, by omega⟩
    rw [impl_AddRedundant.l0, if_neg (by omega), if_pos (by omega), List.drop_eq_nil_of_le (by omega), List.drop_eq_nil_of_le (by omega)]
    simp [addR]
  | succ d ih =>
    intro k i c u h hk hu hc
    obtain ⟨k, rfl⟩ : ∃ m, k = m + 1 := ⟨k - 1, by omega⟩
    have hx := ta _ (rd_mem a i (by omega))
    have hy := tb _ (rd_mem b i (by omega))
    have e3 := low3_trit (rd a (i : Int) + rd b (i : Int))
    unfold Trit at e3 hc
    rw [impl_AddRedundant.l0, if_pos (by omega), if_pos (by omega), if_pos (by omega), if_pos (by omega), w64 (rd a (i : Int) + rd b (i : Int)) (by omega) (by omega), impl_carried_f _ (by omega) (by omega), bsome, if_pos (by omega), w64 _ (by omega) (by omega), w64 _ (by omega) (by omega)]
    rw [show ((i : Int) + 1) = ((i + 1 : Nat) : Int) from by omega]
    rw [ih k (i + 1) _ _ (by omega) (by omega) (by simp; omega) (by unfold Trit rest3 at *; omega), drop_rd a i (by omega), drop_rd b i (by omega)]
    simp [addR]
theorem impl_AddRedundant_f (k : Nat) (a b : List Int) (hk : 100 ≤ k) (ha : Red a) (hb : Red b) (hl : a.length = b.length) (h : a.length < 30) : impl_AddRedundant.f k a b = some (addR 0 a b, true) := by
  obtain ⟨k, rfl⟩ : ∃ m, k = m + 1 := ⟨k - 1, by omega⟩
  unfold impl_AddRedundant.f
  have := impl_AddRedundant_l0 a b (by omega) hl ha.2.2 hb.2.2 a.length k 0 0 [] (by omega) (by omega) (by simp) (by unfold Trit; omega)
  rw [show ((0 : Nat) : Int) = 0 from rfl] at this
  rw [impl_IsRedundant_f, bsome, if_pos (by simpa using ha), impl_IsRedundant_f, bsome, if_pos (by simpa using hb), if_pos (by omega), impl_AddRedundant.j0, if_neg (by simp; omega), this]
  simp
theorem impl_ValueRedundant_f (k : Nat) (l : List Int) (hk : 31 ≤ k) (h : Red l) : impl_ValueRedundant.f k l = some (val l) := by
  unfold impl_ValueRedundant.f
  rw [impl_IsRedundant_f, bsome, if_pos (by simpa using h), impl_value_f k l hk h.2.1 h.2.2, bsome]
theorem red_end (k : Nat) (a : List Int) (n : Int) (hk : 3000000 ≤ k) (ha : Red a) (hn : (a.length : Int) = n) :
    ((impl_NormalRedundant.f k a).bind fun bt134 => ((spec_NormalRedundant.f k a).bind fun bt138 => (if (bt134.2 == bt138.2) = true then (if bt134.2 = true then (if (bt134.1.length : Int) = n then ((impl_ValueOf.f k bt134.1).bind fun t142 => ((impl_ValueRedundant.f k a).bind fun t143 => (some (t142 == t143)))) else (some false)) else (some true)) else (some false)))) = some true := by
  have a1 := ha.1
  have a2 := ha.2.1
  rw [impl_NormalRedundant_f k a (by omega) (by omega), bsome, spec_NormalRedundant_f k a (by omega) (by omega), bsome, if_pos (by simp)]
  unfold normOf
  rw [if_pos ha]
  unfold wordOf
  by_cases h : 1 ≤ (a.length : Int) ∧ (a.length : Int) ≤ 30 ∧ -lim ((a.length : Int)).toNat ≤ val a ∧ val a ≤ lim ((a.length : Int)).toNat
  · rw [if_pos h]
    have e : ((a.length : Int)).toNat = a.length := by omega
    rw [e] at h ⊢
    have hw := word_word (val a) a.length a1 a2
    have lw := length_word (val a) a.length
    rw [if_pos rfl, if_pos (by rw [lw]; exact hn), impl_ValueOf_f k (word (val a) a.length) (by omega) (by rw [lw]; omega), if_pos hw, bsome, impl_ValueRedundant_f k a (by omega) ha, bsome, val_word _ _ h.2.2.1 h.2.2.2]
    simp
  · rw [if_neg h, if_neg (by simp)]
theorem red_loop (a r r2 : List Int) (n : Int) (i : Nat) (hi : i ≤ 100) (ha : Red a) (hn : (a.length : Int) = n) (hl : r2.length = r.length) (hr : r.length ≤ 100) (h : ∀ j : Nat, j ≠ i → j ≠ i + 1 → rd r (j : Int) = rd r2 (j : Int)) : ∀ (d k j : Nat), j + d = r.length → d + 3000000 < k → laws_FnRedundant.l0 k n a r (i : Int) r2 (r.length : Int) (j : Int) = some true := by
  intro d
  induction d with
  | zero =>
    intro k j e hk
    obtain ⟨k, rfl⟩ : ∃ m, k = m + 1 := ⟨k - 1, by omega⟩
    rw [laws_FnRedundant.l0, if_neg (by omega)]
    exact red_end k a n (by omega) ha hn
  | succ d ih =>
    intro k j e hk
    obtain ⟨k, rfl⟩ : ∃ m, k = m + 1 := ⟨k - 1, by omega⟩
    have hx := ih k (j + 1) (by omega) (by omega)
    rw [laws_FnRedundant.l0, if_pos (by omega), w64 ((j : Int) + 1) (by omega) (by omega), show ((j : Int) + 1) = ((j + 1 : Nat) : Int) from by omega, hx]
    by_cases c1 : (j : Int) = (i : Int)
    · rw [if_pos c1]
    · rw [if_neg c1]
      by_cases c2 : (j : Int) = wrap64 ((i : Int) + 1)
      · rw [if_pos c2]
      · rw [w64 _ (by omega) (by omega)] at c2
        rw [w64 ((i : Int) + 1) (by omega) (by omega), if_neg c2, if_pos (by omega), if_pos (by omega), if_pos (by omega), if_pos (h j (by omega) (by omega))]
end FnRedundantParts
open FnRedundantParts
attribute [local congr] bind_left

theorem FnRedundant : laws_FnRedundant.Pure := by
  intro l0 _ hl hwf
  obtain ⟨K, hK⟩ : ∃ K, 100000000 ≤ K := ⟨_, Nat.le_refl _⟩
  refine ⟨K + 2, ?_⟩
  unfold laws_FnRedundant.f
  by_cases h0 : (l0.length : Int) > 1048576
  · rw [if_pos h0]
  obtain ⟨t, et, ht⟩ := laws_at_f l0 1 (by omega) hwf (by omega) (by omega)
  have mt := (tmod_range (n := t) (m := 20) (by omega)).1 ht.1
  obtain ⟨a, ea, ha, la⟩ := spec_MakeDigits_f (K + 2) l0 (1 + Int.tmod t 20) (by omega) (by omega) (by omega) (by omega)
  obtain ⟨c, ec, hc⟩ := laws_fresh_f (K + 2) l0 3 (by omega) (by omega)
  obtain ⟨b, eb, hb, lb⟩ := spec_MakeDigits_f (K + 2) c (1 + Int.tmod t 20) (by omega) (by omega) (by omega) (by omega)
  obtain ⟨u, eu, hu⟩ := laws_at_f l0 2 (by omega) hwf (by omega) (by omega)
  rw [if_neg h0, et, bsome, w64 (1 + _) (by omega) (by omega), ea, bsome, ec, bsome, eb, bsome]
  have hn0 : 1 ≤ 1 + Int.tmod t 20 ∧ 1 + Int.tmod t 20 ≤ 20 := by omega
  generalize 1 + Int.tmod t 20 = n at *
  have mu := (tmod_range (n := u) (m := n) (by omega)).1 hu.1
  have hab : a.length = b.length := by omega
  have h1 := addR_val a b 0 hab ha.2.2 hb.2.2 (by unfold Trit; omega)
  have hr1 : Red (addR 0 a b) := ⟨by omega, by omega, h1.2.1⟩
  have va := val_bd2 a ha.2.2
  have vb := val_bd2 b hb.2.2
  have la30 : lim a.length ≤ lim 30 := lim_mono (by omega)
  have lb30 : lim b.length ≤ lim 30 := lim_mono (by omega)
  rw [lim30] at la30 lb30
  rw [impl_AddRedundant_f _ a b (by omega) ha hb hab (by omega), bsome, if_pos rfl, w64 (n + 1) (by omega) (by omega), if_pos (by simp only; omega), impl_IsRedundant_f, bsome, if_pos (by simpa using hr1), impl_ValueRedundant_f _ _ (by omega) hr1, bsome, impl_ValueRedundant_f _ _ (by omega) ha, bsome, impl_ValueRedundant_f _ _ (by omega) hb, bsome]
  rw [h1.1, Int.add_zero, w64 (val a + val b) (by omega) (by omega), laws_FnRedundant.j0, if_neg (by simp), eu, bsome, if_neg (by omega), bsome, if_pos (by simp only [List.length_nil]; omega), bsome, List.nil_append, if_pos (by omega), if_pos (by omega)]
  generalize Int.tmod u n = i at *
  obtain ⟨i, rfl⟩ : ∃ m : Nat, i = (m : Int) := ⟨i.toNat, by omega⟩
  have hx := ha.2.2 _ (rd_mem a i (by omega))
  rw [w64 (-(rd a (i : Int))) (by omega) (by omega), show ((i : Int)).toNat = i from by omega]
  have ls : (a.set i (-(rd a (i : Int)))).length = a.length := List.length_set
  have hs : Red (a.set i (-(rd a (i : Int)))) := by
    refine ⟨by omega, by omega, fun x hx' => ?_⟩
    rcases List.mem_or_eq_of_mem_set hx' with h | h
    · exact ha.2.2 x h
    · rw [h]; omega
  have h2 := addR_val (a.set i (-(rd a (i : Int)))) b 0 (by omega) hs.2.2 hb.2.2 (by unfold Trit; omega)
  have hset := fun (j : Nat) (p : j ≠ i) (q : j ≠ i + 1) => addR_set a b 0 (-(rd a (i : Int))) i j p q
  rw [impl_AddRedundant_f _ _ b (by omega) hs hb (by omega) (by omega), bsome, if_pos rfl, w64 (n + 1) (by omega) (by omega), laws_FnRedundant.j1, if_neg (by simp; omega)]
  exact red_loop a (addR 0 a b) (addR 0 (a.set i (-(rd a (i : Int)))) b) n i (by omega) ha la (by omega) (by omega) (fun j p q => by rw [rd_nat, rd_nat]; exact (hset j p q).symm) (addR 0 a b).length K 0 (by omega) (by omega)

end Go.Proofs.Ytcgfcnpiekcofaa.Pure
