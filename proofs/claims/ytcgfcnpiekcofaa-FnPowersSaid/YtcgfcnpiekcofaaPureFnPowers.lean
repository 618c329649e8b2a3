/- For every text of draws: powers multiply, and the greatest common divisor divides, is the same both ways, and goes along with a factor; no condition. -/
import Derived.Test.YtcgfcnpiekcofaaPx21
import Derived.Test.YtcgfcnpiekcofaaGlue
namespace Go.Proofs.Ytcgfcnpiekcofaa.Pure
open Go.RowKit Go.Proofs.Ytcgfcnpiekcofaa.Tern Go.Proofs.Ytcgfcnpiekcofaa.P Go.Proofs.YtcgfcnpiekcofaaW.PrintWords Go.Proofs.YtcgfcnpiekcofaaW.PrintLast
set_option linter.unusedVariables false
set_option linter.unusedSimpArgs false

namespace FnPowersParts
theorem impl_IsTrit_f (a : Int) : impl_IsTrit.f a = some (decide (Trit a)) := by
  unfold impl_IsTrit.f Trit
  split
  · rename_i h
    simp [show -1 ≤ a from h]
  · rename_i h
    have : ¬ (-1 ≤ a) := h
    simp [this]
theorem impl_trits_l0 (l : List Int) (hl : l.length ≤ 2000000) : ∀ (d k i : Nat), i + d = l.length → d < k →
    impl_trits.l0 k l (l.length : Int) (i : Int) = some (decide (Trits (l.drop i))) := by
  intro d
  induction d with
  | zero =>
    intro k i h hk
    obtain ⟨k, rfl⟩ : ∃ m, k = m + 1 := ⟨k - 1, by omega⟩
    simp only [impl_trits.l0]
    rw [if_neg (by omega), List.drop_eq_nil_of_le (by omega)]
    simp [Trits.nil]
  | succ d ih =>
    intro k i h hk
    obtain ⟨k, rfl⟩ : ∃ m, k = m + 1 := ⟨k - 1, by omega⟩
    simp only [impl_trits.l0]
    rw [if_pos (by omega), if_pos (by omega), if_pos (by omega), impl_IsTrit_f, drop_rd l i (by omega)]
    simp only [bsome, Trits.cons]
    by_cases ht : Trit (rd l (i : Int))
    · rw [if_pos (by simpa using ht), w64 _ (by omega) (by omega)]
      have := ih k (i + 1) (by omega) (by omega)
      rw [show ((i + 1 : Nat) : Int) = (i : Int) + 1 from by omega] at this
      rw [this]; simp [ht]
    · rw [if_neg (by simpa using ht)]; simp [ht]
theorem impl_trits_f (k : Nat) (l : List Int) (hk : 2000001 ≤ k) (hl : l.length ≤ 2000000) : impl_trits.f k l = some (decide (Trits l)) := by
  unfold impl_trits.f
  have := impl_trits_l0 l hl l.length k 0 (by omega) (by omega)
  simpa using this
theorem impl_IsWord_f (k : Nat) (l : List Int) (hk : 2000001 ≤ k) (hl : l.length ≤ 2000000) : impl_IsWord.f k l = some (decide (Word l)) := by
  unfold impl_IsWord.f Word
  rw [impl_trits_f k l hk hl]
  by_cases h1 : 1 ≤ l.length
  · rw [if_pos (by omega)]
    by_cases h2 : l.length ≤ 30
    · rw [if_pos (by omega)]; simp [h1, h2]
    · rw [if_neg (by omega)]; simp [h2]
  · rw [if_neg (by omega)]; simp [h1]
theorem impl_value_l0 (l : List Int) (hl : l.length ≤ 30) (hb : Digs l) : ∀ (n k : Nat) (x : Int), n ≤ l.length → n < k → x = (n : Int) - 1 →
    impl_value.l0 k l (val (l.drop n)) x = some (val l) := by
  intro n
  induction n with
  | zero =>
    intro k x h hk hx
    obtain ⟨k, rfl⟩ : ∃ m, k = m + 1 := ⟨k - 1, by omega⟩
    simp only [impl_value.l0]
    rw [if_neg (by omega), List.drop_zero]
  | succ n ih =>
    intro k x h hk hx
    obtain ⟨k, rfl⟩ : ∃ m, k = m + 1 := ⟨k - 1, by omega⟩
    obtain rfl : x = (n : Int) := by omega
    have b1 := val_drop_bd l hl hb (n + 1)
    have b2 := hb _ (rd_mem l n (by omega))
    simp only [impl_value.l0]
    rw [if_pos (by omega), if_pos (by omega), if_pos (by omega), w64 (3 * _) (by omega) (by omega), w64 _ (by omega) (by omega), w64 _ (by omega) (by omega)]
    have e : val (l.drop n) = 3 * val (l.drop (n + 1)) + rd l (n : Int) := by rw [drop_rd l n (by omega)]; simp only [val]; omega
    rw [← e]
    exact ih k _ (by omega) (by omega) rfl
theorem impl_value_f (k : Nat) (l : List Int) (hk : 31 ≤ k) (hl : l.length ≤ 30) (hb : Digs l) : impl_value.f k l = some (val l) := by
  unfold impl_value.f
  have := impl_value_l0 l hl hb l.length k (wrap64 ((l.length : Int) - 1)) (Nat.le_refl _) (by omega) (w64 _ (by omega) (by omega))
  rw [List.drop_length] at this
  exact this
theorem impl_ValueOf_f (k : Nat) (l : List Int) (hk : 2000001 ≤ k) (hl : l.length ≤ 2000000) : impl_ValueOf.f k l = some (if Word l then val l else 0) := by
  unfold impl_ValueOf.f
  rw [impl_IsWord_f k l hk hl]
  by_cases h : Word l
  · simp [h, impl_value_f k l (by omega) h.2.1 h.2.2.digs]
  · simp [h]
theorem impl_power_l0 (a : Int) (ha : a ≤ 30) : ∀ (d k i : Nat), (i : Int) + d = a → d < k → impl_power.l0 k (pow3 i) a (i : Int) = some (pow3 a.toNat) := by
  intro d
  induction d with
  | zero =>
    intro k i h hk
    obtain ⟨k, rfl⟩ : ∃ m, k = m + 1 := ⟨k - 1, by omega⟩
    simp only [impl_power.l0]
    rw [if_neg (by omega), show a.toNat = i from by omega]
  | succ d ih =>
    intro k i h hk
    obtain ⟨k, rfl⟩ : ∃ m, k = m + 1 := ⟨k - 1, by omega⟩
    have h1 := pow3_pos i
    have h2 : pow3 i ≤ pow3 30 := pow3_mono (by omega)
    rw [pow3_30] at h2
    simp only [impl_power.l0]
    rw [if_pos (by omega), w64 _ (by omega) (by omega), w64 _ (by omega) (by omega)]
    have := ih k (i + 1) (by omega) (by omega)
    simp only [pow3] at this
    rw [show pow3 i * 3 = 3 * pow3 i from by omega, show (i : Int) + 1 = ((i + 1 : Nat) : Int) from by omega]
    exact this
theorem impl_power_f (k : Nat) (a : Int) (hk : 31 ≤ k) (ha : a ≤ 30) : impl_power.f k a = some (pow3 a.toNat) := by
  unfold impl_power.f
  by_cases h : 0 ≤ a
  · exact impl_power_l0 a ha a.toNat k 0 (by omega) (by omega)
  · obtain ⟨k, rfl⟩ : ∃ m, k = m + 1 := ⟨k - 1, by omega⟩
    simp only [impl_power.l0]
    rw [if_neg (by omega), show a.toNat = 0 from by omega]; rfl
theorem impl_LimitOf_f (k : Nat) (a : Int) (hk : 31 ≤ k) : impl_LimitOf.f k a = some (if 1 ≤ a ∧ a ≤ 30 then lim a.toNat else 0) := by
  unfold impl_LimitOf.f
  by_cases h1 : a < 1
  · rw [if_pos h1, if_neg (by omega)]
  · rw [if_neg h1]
    by_cases h2 : a > 30
    · rw [if_pos h2, if_neg (by omega)]
    · rw [if_neg h2, impl_power_f k a hk (by omega), if_pos (by omega)]
      have h3 := pow3_lim a.toNat
      have h4 := lim_nonneg a.toNat
      have h5 : lim a.toNat ≤ lim 30 := lim_mono (by omega)
      rw [lim30] at h5
      simp only [bsome]
      rw [w64 (pow3 _ - 1) (by omega) (by omega), h3, show 2 * lim a.toNat + 1 - 1 = 2 * lim a.toNat from by omega, Int.mul_tdiv_cancel_left _ (by omega), w64 _ (by omega) (by omega)]
theorem impl_fits_f (k : Nat) (n a : Int) (hk : 31 ≤ k) (h1 : 1 ≤ a) (h2 : a ≤ 30) : impl_fits.f k n a = some (decide (-lim a.toNat ≤ n ∧ n ≤ lim a.toNat)) := by
  unfold impl_fits.f
  have h4 := lim_nonneg a.toNat
  have h5 : lim a.toNat ≤ lim 30 := lim_mono (by omega)
  rw [lim30] at h5
  rw [impl_LimitOf_f k a hk, if_pos ⟨h1, h2⟩]
  simp only [bsome]
  rw [w64 _ (by omega) (by omega)]
  by_cases h : n ≥ -lim a.toNat
  · rw [if_pos h]; simp [show -lim a.toNat ≤ n from h]
  · rw [if_neg h]
    have : ¬ -lim a.toNat ≤ n := h
    simp [this]
theorem impl_carried_tmod (n : Int) : ∃ c, impl_carried.f (Int.tmod n 3) = some (low3 n, c) := by
  unfold impl_carried.f low3
  rcases Int.le_total 0 n with h | h
  · rw [tmod3_nonneg n h]
    split
    · rw [w64 _ (by omega) (by omega)]; exact ⟨1, by congr 2; omega⟩
    · rw [if_neg (by omega)]; exact ⟨0, by congr 2; omega⟩
  · have e2 := tmod3_nonpos n h
    rw [e2]
    split
    · omega
    · split
      · rw [w64 _ (by omega) (by omega)]; exact ⟨-1, by congr 2; omega⟩
      · exact ⟨0, by congr 2; omega⟩
theorem tdiv_low3 (n : Int) : Int.tdiv (n - low3 n) 3 = rest3 n := by
  have := low3_rest3 n
  rw [show n - low3 n = 3 * rest3 n from by omega, Int.mul_tdiv_cancel_left _ (by omega)]
theorem rest3_bd (n B : Int) (hB : 0 ≤ B) (h0 : -B ≤ n) (h1 : n ≤ B) : -B ≤ rest3 n ∧ rest3 n ≤ B := by unfold rest3; omega
theorem impl_WordOf_l0 (a : Int) (ha : a ≤ 30) : ∀ (d k i : Nat) (n : Int) (acc : List Int), (i : Int) + d = a → d < k → acc.length = i → -1000000000000000000 ≤ n → n ≤ 1000000000000000000 →
    impl_WordOf.l0 k n acc a (i : Int) = some (acc ++ word n d, true) := by
  intro d
  induction d with
  | zero =>
    intro k i n acc h hk hl h0 h1
    obtain ⟨k, rfl⟩ : ∃ m, k = m + 1 := ⟨k - 1, by omega⟩
    simp only [impl_WordOf.l0]
    rw [if_neg (by omega)]; simp [word]
  | succ d ih =>
    intro k i n acc h hk hl h0 h1
    obtain ⟨k, rfl⟩ : ∃ m, k = m + 1 := ⟨k - 1, by omega⟩
    obtain ⟨c, hc⟩ := impl_carried_tmod n
    have ht := low3_trit n
    unfold Trit at ht
    have hu := rest3_bd n 1000000000000000000 (by omega) (by omega) h1
    simp only [impl_WordOf.l0]
    rw [if_pos (by omega), hc]
    simp only [bsome]
    rw [if_pos (by omega), w64 (n - low3 n) (by omega) (by omega), tdiv_low3, w64 (rest3 n) (by omega) (by omega), w64 _ (by omega) (by omega), show (i : Int) + 1 = ((i + 1 : Nat) : Int) from by omega,
      ih k (i + 1) (rest3 n) (acc ++ [low3 n]) (by omega) (by omega) (by simp [hl]) hu.1 hu.2]
    simp [word]
theorem impl_WordOf_f (k : Nat) (n a : Int) (hk : 40 ≤ k) (ha : -9223372036854775808 ≤ a) : impl_WordOf.f k n a = some (wordOf n a) := by
  obtain ⟨k, rfl⟩ : ∃ m, k = m + 1 := ⟨k - 1, by omega⟩
  unfold impl_WordOf.f wordOf
  by_cases h1 : a < 1
  · rw [if_pos h1, if_neg (by omega)]; simp only [impl_WordOf.j0]; rfl
  · rw [if_neg h1]
    by_cases h2 : a > 30
    · rw [if_pos h2, if_neg (by omega)]; simp only [impl_WordOf.j0]; rfl
    · rw [if_neg h2, impl_fits_f _ n a (by omega) (by omega) (by omega)]
      simp only [bsome, impl_WordOf.j0]
      have h5 : lim a.toNat ≤ lim 30 := lim_mono (by omega)
      rw [lim30] at h5
      by_cases h : -lim a.toNat ≤ n ∧ n ≤ lim a.toNat
      · rw [if_neg (by simpa using h), if_pos ⟨by omega, by omega, h⟩]
        have := impl_WordOf_l0 a (by omega) a.toNat k 0 n [] (by omega) (by omega) rfl (by omega) (by omega)
        simpa using this
      · rw [if_pos (by rw [decide_eq_false h]; rfl), if_neg (fun hh => h hh.2.2)]
theorem impl_two_f (k : Nat) (a b : List Int) (hk : 2000001 ≤ k) (ha : a.length ≤ 2000000) (hb : b.length ≤ 2000000) : impl_two.f k a b = some (decide (Word a ∧ Word b ∧ a.length + b.length ≤ 30)) := by
  unfold impl_two.f
  rw [impl_IsWord_f k a hk ha, impl_IsWord_f k b hk hb]
  simp only [bsome]
  by_cases h1 : Word a
  · by_cases h2 : Word b
    · simp only [h1, h2, decide_true, if_true, true_and]
      rw [w64 _ (by omega) (by omega)]
      congr 1
      by_cases h3 : a.length + b.length ≤ 30
      · simp only [h3, decide_true]; exact decide_eq_true (by omega)
      · simp only [h3, decide_false]; exact decide_eq_false (by omega)
    · simp [h1, h2]
  · simp [h1]
def mulOf (a b : List Int) : List Int × Bool := if Word a ∧ Word b ∧ a.length + b.length ≤ 30 then (word (val a * val b) (a.length + b.length), true) else ([], false)
theorem mul_bds {a b : List Int} (h : Word a ∧ Word b ∧ a.length + b.length ≤ 30) : (-lim (a.length + b.length) ≤ val a * val b ∧ val a * val b ≤ lim (a.length + b.length)) ∧ -102945566047324 ≤ val a * val b ∧ val a * val b ≤ 102945566047324 := by
  have h1 := mul_lim (val_bd a h.1.2.2) (val_bd b h.2.1.2.2)
  have h2 : lim (a.length + b.length) ≤ lim 30 := lim_mono h.2.2
  rw [lim30] at h2
  omega
theorem impl_MultiplyWords_f (k : Nat) (a b : List Int) (hk : 2000001 ≤ k) (ha : a.length ≤ 2000000) (hb : b.length ≤ 2000000) : impl_MultiplyWords.f k a b = some (mulOf a b) := by
  unfold impl_MultiplyWords.f mulOf
  rw [impl_two_f k a b hk ha hb]
  simp only [bsome]
  by_cases h : Word a ∧ Word b ∧ a.length + b.length ≤ 30
  · have hm := mul_bds h
    rw [if_pos (by simpa using h), if_pos h, impl_value_f k a (by omega) h.1.2.1 h.1.2.2.digs, impl_value_f k b (by omega) h.2.1.2.1 h.2.1.2.2.digs]
    simp only [bsome]
    rw [w64 (val a * val b) (by omega) (by omega), w64 _ (by omega) (by omega), impl_WordOf_f k _ _ (by omega) (by omega)]
    have e : ((a.length : Int) + (b.length : Int)).toNat = a.length + b.length := by omega
    have h1 := h.1.1
    rw [wordOf_yes (by omega) (by omega) (by rw [e]; exact hm.1.1) (by rw [e]; exact hm.1.2), e]
    rfl
  · rw [if_neg (by simpa using h), if_neg h]
theorem mx_abs (d : Int) (h : -9223372036854775807 ≤ d) (h1 : d ≤ 9223372036854775807) : mx d (wrap64 (-d)) = abs3 d := by
  rw [w64 _ (by omega) (by omega)]
  unfold mx abs3
  split
  · rw [if_pos (by omega)]
  · split <;> omega
theorem impl_size_f (d : Int) (h : -9223372036854775807 ≤ d) (h1 : d ≤ 9223372036854775807) : impl_size.f d = some (abs3 d) := by
  unfold impl_size.f
  rw [mx_abs d h h1]
theorem laws_abs_f (d : Int) (h : -9223372036854775807 ≤ d) (h1 : d ≤ 9223372036854775807) : laws_abs.f d = some (abs3 d) := by
  unfold laws_abs.f
  rw [mx_abs d h h1]
theorem abs3_le {d B : Int} (h : -B ≤ d) (h1 : d ≤ B) : abs3 d ≤ B := by unfold abs3; split <;> omega
theorem gcd_step (a b : Int) : Int.gcd b (Int.tmod a b) = Int.gcd a b := by
  unfold Int.gcd
  rw [Int.natAbs_tmod, Nat.gcd_comm a.natAbs b.natAbs, Nat.gcd_rec b.natAbs a.natAbs, Nat.gcd_comm]
theorem tmod_lt (a b : Int) (hb : b ≠ 0) : (Int.tmod a b).natAbs < b.natAbs := by
  rw [Int.natAbs_tmod]
  exact Nat.mod_lt _ (by omega)
theorem gcd_bd (a b : Int) (B : Nat) (ha : a.natAbs ≤ B) (hb : b.natAbs ≤ B) : Int.gcd a b ≤ B := by
  unfold Int.gcd
  rcases Nat.eq_zero_or_pos b.natAbs with h | h
  · rw [h, Nat.gcd_zero_right]; exact ha
  · exact Nat.le_trans (Nat.gcd_le_right _ h) hb
theorem impl_gcd_l0 : ∀ (d k : Nat) (a b : Int), b.natAbs ≤ d → d < k → a.natAbs ≤ 1000000000000000000 → b.natAbs ≤ 1000000000000000000 → impl_gcd.l0 k a b = some (Int.gcd a b : Int) := by
  intro d
  induction d with
  | zero =>
    intro k a b h hk h1 h2
    obtain ⟨k, rfl⟩ : ∃ m, k = m + 1 := ⟨k - 1, by omega⟩
    obtain rfl : b = 0 := by omega
    rw [impl_gcd.l0, if_pos rfl, impl_size_f a (by omega) (by omega), bsome, Int.gcd_zero_right]
    congr 1
    unfold abs3
    split <;> omega
  | succ d ih =>
    intro k a b h hk h1 h2
    obtain ⟨k, rfl⟩ : ∃ m, k = m + 1 := ⟨k - 1, by omega⟩
    by_cases hb : b = 0
    · subst hb
      rw [impl_gcd.l0, if_pos rfl, impl_size_f a (by omega) (by omega), bsome, Int.gcd_zero_right]
      congr 1
      unfold abs3
      split <;> omega
    · have := tmod_lt a b hb
      rw [impl_gcd.l0, if_neg hb, ih k b (Int.tmod a b) (by omega) (by omega) (by omega) (by omega), gcd_step]
theorem impl_gcd_f (k : Nat) (a b : Int) (hk : 1000000000000000001 ≤ k) (h1 : a.natAbs ≤ 1000000000000000000) (h2 : b.natAbs ≤ 1000000000000000000) : impl_gcd.f k a b = some (Int.gcd a b : Int) := by
  unfold impl_gcd.f
  exact impl_gcd_l0 b.natAbs k a b (Nat.le_refl _) (by omega) h1 h2
def gcdOf (a b : List Int) : List Int × Bool := if Word a ∧ Word b then (word (Int.gcd (val a) (val b)) (max a.length b.length), true) else ([], false)
theorem gcdOf_len (a b : List Int) : (gcdOf a b).1.length ≤ 30 := by
  unfold gcdOf
  split
  · rename_i h
    simp only [length_word]
    have := h.1.2.1
    have := h.2.2.1
    omega
  · simp
theorem gcd_words {a b : List Int} (ha : Word a) (hb : Word b) : ((Int.gcd (val a) (val b) : Nat) : Int) ≤ lim (max a.length b.length) ∧ (val a).natAbs ≤ 102945566047324 ∧ (val b).natAbs ≤ 102945566047324 := by
  have h1 := val_bd a ha.2.2
  have h2 := val_bd b hb.2.2
  have h3 := lim_mono (Nat.le_max_left a.length b.length)
  have h4 := lim_mono (Nat.le_max_right a.length b.length)
  have h5 := ha.bd
  have h6 := hb.bd
  rw [lim30] at h5 h6
  have := gcd_bd (val a) (val b) (lim (max a.length b.length)).toNat (by omega) (by omega)
  have := lim_nonneg (max a.length b.length)
  omega
theorem impl_GcdWords_f (k : Nat) (a b : List Int) (hk : 1000000000000000002 ≤ k) (ha : a.length ≤ 2000000) (hb : b.length ≤ 2000000) : impl_GcdWords.f k a b = some (gcdOf a b) := by
  obtain ⟨k, rfl⟩ : ∃ m, k = m + 1 := ⟨k - 1, by omega⟩
  unfold impl_GcdWords.f gcdOf
  rw [impl_IsWord_f _ a (by omega) ha, impl_IsWord_f _ b (by omega) hb, bsome]
  by_cases h1 : Word a
  · rw [if_pos (by simpa using h1), bsome]
    simp only [impl_GcdWords.j0]
    by_cases h2 : Word b
    · have hg := gcd_words h1 h2
      have hl1 := h1.1
      have hl2 := h1.2.1
      have hl3 := h2.2.1
      rw [if_neg (by simpa using h2), if_pos ⟨h1, h2⟩, impl_value_f _ a (by omega) h1.2.1 h1.2.2.digs, impl_value_f _ b (by omega) h2.2.1 h2.2.2.digs, bsome, bsome, impl_gcd_f _ _ _ (by omega) (by omega) (by omega), bsome]
      by_cases c : (a.length : Int) < (b.length : Int)
      · rw [Nat.max_eq_right (show a.length ≤ b.length by omega)] at hg ⊢
        rw [if_pos c, impl_WordOf_f _ _ _ (by omega) (by omega), wordOf_yes (by omega) (by omega) (by rw [Int.toNat_natCast]; omega) (by rw [Int.toNat_natCast]; exact hg.1), Int.toNat_natCast, bsome]
      · rw [Nat.max_eq_left (show b.length ≤ a.length by omega)] at hg ⊢
        rw [if_neg c, impl_WordOf_f _ _ _ (by omega) (by omega), wordOf_yes (by omega) (by omega) (by rw [Int.toNat_natCast]; omega) (by rw [Int.toNat_natCast]; exact hg.1), Int.toNat_natCast, bsome]
    · rw [if_pos (by simpa using h2), if_neg (fun h => h2 h.2)]
  · rw [if_neg (by simpa using h1), if_neg (fun h => h1 h.1)]; simp only [impl_GcdWords.j0]; rfl
theorem bits_and255 (x : Int) : 0 ≤ Go.bits .and .i64 x 255 ∧ Go.bits .and .i64 x 255 ≤ 255 := by
  have h : (BitVec.ofInt 64 x &&& BitVec.ofInt 64 255).toNat ≤ 255 := by
    rw [BitVec.toNat_and]
    exact Nat.le_trans Nat.and_le_right (by decide)
  have e : Go.bits .and .i64 x 255 = IntKind.i64.wrap ((BitVec.ofInt 64 x &&& BitVec.ofInt 64 255).toNat : Int) := rfl
  rw [e, IntKind.wrap_i64]
  omega
theorem spec_l01Byte_f (b : List Int) (i h : Int) (hb : b.length ≤ 2000000) (hi : 0 ≤ i) : ∃ r i' h', spec_l01Byte.f b i h = some (r, i', h') ∧ (0 ≤ r ∧ r ≤ 255) ∧ 0 ≤ i' := by
  unfold spec_l01Byte.f
  by_cases c : i < (b.length : Int)
  · rw [if_pos c, if_pos hi, w64 (i + 1) (by omega) (by omega)]
    exact ⟨_, _, _, rfl, bits_and255 _, by omega⟩
  · rw [if_neg c]
    exact ⟨_, _, _, rfl, bits_and255 _, hi⟩
theorem spec_l01Below_f (b : List Int) (i h n : Int) (hb : b.length ≤ 2000000) (hi : 0 ≤ i) (h1 : 1 ≤ n) (h2 : n ≤ 256) : ∃ r i' h', spec_l01Below.f b i h n = some (r, i', h') ∧ (0 ≤ r ∧ r < n) ∧ 0 ≤ i' := by
  obtain ⟨r, i', h', e, hr, hi'⟩ := spec_l01Byte_f b i h hb hi
  unfold spec_l01Below.f
  rw [if_neg (by omega), if_pos h2, e, bsome, if_neg (by omega)]
  refine ⟨_, _, _, rfl, ?_, hi'⟩
  show 0 ≤ Int.tmod r n ∧ Int.tmod r n < n
  exact (tmod_range (n := r) (by omega)).1 hr.1
theorem spec_l01New_f (k : Nat) (l : List Int) (hk : 2000002 ≤ k) (hl : l.length ≤ 2000000) : ∃ h, spec_l01New.f k l = some (l, 0, h) := by
  have key : ∀ (d k i : Nat) (h : Int), i + d = l.length → d < k → ∃ h', spec_l01New.l0 k l h (i : Int) = some (l, 0, h') := by
    intro d
    induction d with
    | zero =>
      intro k i h e hk
      obtain ⟨k, rfl⟩ : ∃ m, k = m + 1 := ⟨k - 1, by omega⟩
      rw [spec_l01New.l0, if_neg (by omega)]
      exact ⟨_, rfl⟩
    | succ d ih =>
      intro k i h e hk
      obtain ⟨k, rfl⟩ : ∃ m, k = m + 1 := ⟨k - 1, by omega⟩
      rw [spec_l01New.l0, if_pos (by omega)]
      by_cases c : (i : Int) < 4000
      · rw [if_pos c, if_pos (by omega), w64 ((i : Int) + 1) (by omega) (by omega), show (i : Int) + 1 = ((i + 1 : Nat) : Int) from by omega]
        exact ih k (i + 1) _ (by omega) (by omega)
      · rw [if_neg c]
        exact ⟨_, rfl⟩
  unfold spec_l01New.f
  exact key l.length k 0 _ (by omega) (by omega)
theorem spec_l2Draw_l1 (b : List Int) (i h : Int) : ∀ (d k j : Nat) (w : List Int), j + d = w.length → d < k → w.length ≤ 30 → Trits w → ∃ w', spec_l2Draw.l1 k w (w.length : Int) (j : Int) b i h = some (w', i, h) ∧ w'.length = w.length ∧ Trits w' := by
  intro d
  induction d with
  | zero =>
    intro k j w e hk hw ht
    obtain ⟨k, rfl⟩ : ∃ m, k = m + 1 := ⟨k - 1, by omega⟩
    rw [spec_l2Draw.l1, if_neg (by omega)]
    exact ⟨w, rfl, rfl, ht⟩
  | succ d ih =>
    intro k j w e hk hw ht
    obtain ⟨k, rfl⟩ : ∃ m, k = m + 1 := ⟨k - 1, by omega⟩
    rw [spec_l2Draw.l1, if_pos (by omega), if_pos (by omega), if_pos (by omega), w64 _ (by omega) (by omega), show (j : Int) + 1 = ((j + 1 : Nat) : Int) from by omega]
    obtain ⟨w', e', l', t'⟩ := ih k (j + 1) (w.set (j : Int).toNat 1) (by rw [List.length_set]; omega) (by omega) (by rw [List.length_set]; omega) (by
      intro a ha
      rcases List.mem_or_eq_of_mem_set ha with h1 | h1
      · exact ht a h1
      · rw [h1]; unfold Trit; omega)
    rw [List.length_set] at e' l'
    exact ⟨w', e', l', t'⟩
theorem spec_l2Draw_l2 (b : List Int) (i h : Int) : ∀ (d k j : Nat) (w : List Int), j + d = w.length → d < k → w.length ≤ 30 → Trits w → ∃ w', spec_l2Draw.l2 k w (w.length : Int) (j : Int) b i h = some (w', i, h) ∧ w'.length = w.length ∧ Trits w' := by
  intro d
  induction d with
  | zero =>
    intro k j w e hk hw ht
    obtain ⟨k, rfl⟩ : ∃ m, k = m + 1 := ⟨k - 1, by omega⟩
    rw [spec_l2Draw.l2, if_neg (by omega)]
    exact ⟨w, rfl, rfl, ht⟩
  | succ d ih =>
    intro k j w e hk hw ht
    obtain ⟨k, rfl⟩ : ∃ m, k = m + 1 := ⟨k - 1, by omega⟩
    rw [spec_l2Draw.l2, if_pos (by omega), if_pos (by omega), if_pos (by omega), w64 _ (by omega) (by omega), show (j : Int) + 1 = ((j + 1 : Nat) : Int) from by omega]
    obtain ⟨w', e', l', t'⟩ := ih k (j + 1) (w.set (j : Int).toNat (-1)) (by rw [List.length_set]; omega) (by omega) (by rw [List.length_set]; omega) (by
      intro a ha
      rcases List.mem_or_eq_of_mem_set ha with h1 | h1
      · exact ht a h1
      · rw [h1]; unfold Trit; omega)
    rw [List.length_set] at e' l'
    exact ⟨w', e', l', t'⟩
theorem spec_l2Draw_l3 (b : List Int) (i h : Int) : ∀ (d k j : Nat) (w : List Int), j + d = w.length → d < k → w.length ≤ 30 → Trits w → ∃ w', spec_l2Draw.l3 k w (w.length : Int) (j : Int) b i h = some (w', i, h) ∧ w'.length = w.length ∧ Trits w' := by
  intro d
  induction d with
  | zero =>
    intro k j w e hk hw ht
    obtain ⟨k, rfl⟩ : ∃ m, k = m + 1 := ⟨k - 1, by omega⟩
    rw [spec_l2Draw.l3, if_neg (by omega)]
    exact ⟨w, rfl, rfl, ht⟩
  | succ d ih =>
    intro k j w e hk hw ht
    obtain ⟨k, rfl⟩ : ∃ m, k = m + 1 := ⟨k - 1, by omega⟩
    rw [spec_l2Draw.l3, if_pos (by omega), if_pos (by omega), if_pos (by omega), w64 _ (by omega) (by omega), show (j : Int) + 1 = ((j + 1 : Nat) : Int) from by omega]
    obtain ⟨w', e', l', t'⟩ := ih k (j + 1) (w.set (j : Int).toNat 0) (by rw [List.length_set]; omega) (by omega) (by rw [List.length_set]; omega) (by
      intro a ha
      rcases List.mem_or_eq_of_mem_set ha with h1 | h1
      · exact ht a h1
      · rw [h1]; unfold Trit; omega)
    rw [List.length_set] at e' l'
    exact ⟨w', e', l', t'⟩
theorem spec_l2Draw_l0 (b : List Int) (hb : b.length ≤ 2000000) : ∀ (d k : Nat) (n i h : Int) (w : List Int), n = d → d + 100 < k → 0 ≤ i → w.length + d ≤ 30 → Trits w →
    ∃ w' i' h', spec_l2Draw.l0 k w n b i h = some (w', i', h') ∧ w'.length = w.length + d ∧ Trits w' ∧ 0 ≤ i' := by
  intro d
  induction d with
  | zero =>
    intro k n i h w hn hk hi hw ht
    obtain ⟨k, rfl⟩ : ∃ m, k = m + 1 := ⟨k - 1, by omega⟩
    obtain ⟨r, i', h', e, hr, hi'⟩ := spec_l01Below_f b i h 12 hb hi (by omega) (by omega)
    rw [spec_l2Draw.l0, if_neg (by omega), e, bsome]
    by_cases c0 : r = 0
    · rw [if_pos c0]
      obtain ⟨w', e', l', t'⟩ := spec_l2Draw_l1 b i' h' w.length k 0 w (by omega) (by omega) (by omega) ht
      exact ⟨w', _, _, e', by omega, t', hi'⟩
    rw [if_neg c0]
    by_cases c1 : r = 1
    · rw [if_pos c1]
      obtain ⟨w', e', l', t'⟩ := spec_l2Draw_l2 b i' h' w.length k 0 w (by omega) (by omega) (by omega) ht
      exact ⟨w', _, _, e', by omega, t', hi'⟩
    rw [if_neg c1]
    by_cases c2 : r = 2
    · rw [if_pos c2]
      obtain ⟨w', e', l', t'⟩ := spec_l2Draw_l3 b i' h' w.length k 0 w (by omega) (by omega) (by omega) ht
      exact ⟨w', _, _, e', by omega, t', hi'⟩
    rw [if_neg c2]
    exact ⟨w, _, _, rfl, by omega, ht, hi'⟩
  | succ d ih =>
    intro k n i h w hn hk hi hw ht
    obtain ⟨k, rfl⟩ : ∃ m, k = m + 1 := ⟨k - 1, by omega⟩
    obtain ⟨r, i', h', e, hr, hi'⟩ := spec_l01Below_f b i h 3 hb hi (by omega) (by omega)
    rw [spec_l2Draw.l0, if_pos (by omega), e, bsome, if_pos (by omega), w64 (r - 1) (by omega) (by omega), w64 (n - 1) (by omega) (by omega)]
    obtain ⟨w', i2, h2, e', l', t', hi2⟩ := ih k (n - 1) i' h' (w ++ [r - 1]) (by omega) (by omega) hi' (by simp; omega) (ht.append (by intro a ha; simp at ha; subst ha; unfold Trit; omega))
    exact ⟨w', i2, h2, e', by simp at l'; omega, t', hi2⟩
theorem spec_l2Draw_f (k : Nat) (b : List Int) (i h m : Int) (hk : 1000 ≤ k) (hb : b.length ≤ 2000000) (hi : 0 ≤ i) (h1 : 1 ≤ m) (h2 : m ≤ 30) : ∃ w i' h', spec_l2Draw.f k b i h m = some (w, i', h') ∧ Word w ∧ (w.length : Int) ≤ m ∧ 0 ≤ i' := by
  obtain ⟨r, i', h', e, hr, hi'⟩ := spec_l01Below_f b i h m hb hi h1 (by omega)
  unfold spec_l2Draw.f
  rw [e, bsome, w64 (1 + r) (by omega) (by omega)]
  obtain ⟨w', i2, h2', e', l', t', hi2⟩ := spec_l2Draw_l0 b hb (1 + r).toNat k (1 + r) i' h' [] (by omega) (by omega) hi' (by simp; omega) Trits.nil
  simp only [List.length_nil] at l'
  exact ⟨w', i2, h2', e', ⟨by omega, by omega, t'⟩, by omega, hi2⟩
theorem spec_MakeWord_f (k : Nat) (l : List Int) (m : Int) (hk : 2000002 ≤ k) (hl : l.length ≤ 2000000) (h1 : 1 ≤ m) (h2 : m ≤ 30) : ∃ w, spec_MakeWord.f k l m = some w ∧ Word w ∧ (w.length : Int) ≤ m := by
  obtain ⟨h, e⟩ := spec_l01New_f k l hk hl
  have em : mx 1 (mn m 30) = m := by unfold mx mn; split <;> split <;> omega
  unfold spec_MakeWord.f
  rw [e, bsome, em]
  obtain ⟨w, i', h', e', hw, hm, _⟩ := spec_l2Draw_f k l 0 h m (by omega) hl (by omega) h1 h2
  rw [e', bsome]
  exact ⟨w, rfl, hw, hm⟩
theorem laws_fresh_f (k : Nat) (l : List Int) (m : Int) (hk : 2000002 ≤ k) (hl : l.length ≤ 2000000) : ∃ c, laws_fresh.f k l m = some c ∧ c.length ≤ 1000 := by
  have key : ∀ (d k i : Nat) (acc : List Int), i + d = l.length → d < k → acc.length = i + 1 → i ≤ 600 → ∃ c, laws_fresh.l0 k l m acc (i : Int) = some c ∧ c.length ≤ 1000 := by
    intro d
    induction d with
    | zero =>
      intro k i acc e hk ha hi
      obtain ⟨k, rfl⟩ : ∃ m, k = m + 1 := ⟨k - 1, by omega⟩
      rw [laws_fresh.l0, if_neg (by omega)]
      exact ⟨acc, rfl, by omega⟩
    | succ d ih =>
      intro k i acc e hk ha hi
      obtain ⟨k, rfl⟩ : ∃ m, k = m + 1 := ⟨k - 1, by omega⟩
      rw [laws_fresh.l0, if_pos (by omega)]
      by_cases c : (i : Int) < 600
      · rw [if_pos c, if_pos (by omega), if_pos (by omega), w64 ((i : Int) + 1) (by omega) (by omega), show (i : Int) + 1 = ((i + 1 : Nat) : Int) from by omega]
        exact ih k (i + 1) _ (by omega) (by omega) (by simp [ha]) (by omega)
      · rw [if_neg c]
        exact ⟨acc, rfl, by omega⟩
  unfold laws_fresh.f
  exact key l.length k 0 _ (by omega) (by omega) (by simp) (by omega)
theorem laws_at_f (l : List Int) (i : Int) (hl : l.length ≤ 2000000) (hw : ∀ x ∈ l, (Lit.int .u8 x).wf = true) (h0 : 0 ≤ i) (h1 : i ≤ 1000) : ∃ v, laws_at.f l i = some v ∧ 0 ≤ v ∧ v ≤ 255 := by
  unfold laws_at.f
  by_cases c : i < (l.length : Int)
  · have := wf8 (hw _ (rd_mem l i.toNat (by omega)))
    rw [show ((i.toNat : Nat) : Int) = i from by omega] at this
    rw [if_pos c, if_pos h0, w64 _ (by omega) (by omega)]
    exact ⟨_, rfl, this⟩
  · rw [if_neg c, w64 (i * 37) (by omega) (by omega), w64 ((l.length : Int) * 11) (by omega) (by omega), w64 _ (by omega) (by omega)]
    have := (tmod_range (n := i * 37 + (l.length : Int) * 11) (m := 256) (by omega)).1 (by omega)
    exact ⟨_, rfl, by omega, by omega⟩
theorem word_word (n : Int) (k : Nat) (h1 : 1 ≤ k) (h2 : k ≤ 30) : Word (word n k) := ⟨by rw [length_word]; exact h1, by rw [length_word]; exact h2, trits_word n k⟩
theorem abs3_nat (d : Int) : abs3 d = (d.natAbs : Int) := by unfold abs3; split <;> omega
theorem abs3_mul (a b : Int) : abs3 (a * b) = abs3 a * abs3 b := by
  rw [abs3_nat, abs3_nat, abs3_nat, Int.natAbs_mul, Int.natCast_mul]
theorem pw_big (v L : Int) (hL : 0 ≤ L) (m : Nat) (hm : L < abs3 (v ^ (m + 1))) : ∀ e : Nat, L < abs3 (v ^ (m + 1 + e)) := by
  have hv : 1 ≤ abs3 v := by
    by_cases h : v = 0
    · subst h
      rw [Int.pow_succ, Int.mul_zero] at hm
      simp [abs3] at hm; omega
    · have := abs3_pos h; omega
  intro e
  induction e with
  | zero => exact hm
  | succ e ih =>
    rw [← Nat.add_assoc, Int.pow_succ, abs3_mul]
    have := Int.mul_le_mul_of_nonneg_left hv (abs3_nonneg (v ^ (m + 1 + e)))
    omega
theorem pw_step {c a L : Int} (hL : 0 ≤ L) (ha : 0 < a) : (c > Int.tdiv L a) = (L < c * a) := by
  rw [Int.tdiv_eq_ediv_of_nonneg hL]
  exact propext (Int.ediv_lt_iff_lt_mul ha)
theorem pw_div {a L : Int} (hL : 0 ≤ L) (ha : 0 < a) : 0 ≤ Int.tdiv L a ∧ Int.tdiv L a ≤ L := by
  rw [Int.tdiv_eq_ediv_of_nonneg hL]
  exact ⟨Int.ediv_nonneg hL (by omega), Int.ediv_le_self a hL⟩
theorem limit30 (k : Nat) (hk : 31 ≤ k) : impl_LimitOf.f k 30 = some 102945566047324 := by
  rw [impl_LimitOf_f k 30 hk, if_pos (by omega)]
  exact congrArg some lim30
theorem abs3_bd {d B : Int} (h : abs3 d ≤ B) : -B ≤ d ∧ d ≤ B := by unfold abs3 at h; split at h <;> omega
theorem impl_product_f (k : Nat) (r v : Int) (hk : 31 ≤ k) (hr : abs3 r ≤ 102945566047324) (hv : abs3 v ≤ 102945566047324) : impl_product.f k r v = some (if abs3 (r * v) ≤ 102945566047324 then (r * v, true) else (0, false)) := by
  unfold impl_product.f
  have br := abs3_bd hr
  have bv := abs3_bd hv
  rw [limit30 k hk, bsome]
  by_cases h0 : r = 0
  · subst h0
    rw [if_pos rfl, Int.zero_mul, w64 0 (by omega) (by omega), if_pos (by simp [abs3])]
  · have hp := abs3_pos h0
    have hd := pw_div (L := 102945566047324) (by omega) hp
    rw [if_neg h0, impl_size_f v (by omega) (by omega), bsome, impl_size_f r (by omega) (by omega), bsome, if_neg (by omega), w64 (Int.tdiv _ _) (by omega) (by omega)]
    simp only [pw_step (L := 102945566047324) (by omega) hp]
    rw [abs3_mul, Int.mul_comm (abs3 r)]
    by_cases h : 102945566047324 < abs3 v * abs3 r
    · rw [if_pos h, if_neg (by omega)]
    · have hb : abs3 (r * v) ≤ 102945566047324 := by rw [abs3_mul, Int.mul_comm (abs3 r)]; omega
      have := abs3_bd hb
      rw [if_neg h, if_pos (by omega), w64 _ (by omega) (by omega)]
def pw (v : Int) (n : Nat) : List Int × Bool := if abs3 (v ^ n) ≤ 102945566047324 then (word (v ^ n) 30, true) else ([], false)
theorem pw_word (r : Int) (hr : abs3 r ≤ 102945566047324) : wordOf r 30 = (word r 30, true) := by
  have b := abs3_bd hr
  have e : lim (30 : Int).toNat = 102945566047324 := lim30
  exact wordOf_yes (by omega) (by omega) (by rw [e]; omega) (by rw [e]; omega)
theorem impl_PowerWord_l0 (v : Int) (hv : abs3 v ≤ 102945566047324) (n : Int) (hn : n ≤ 9223372036854775807) : ∀ (d k i : Nat) (r : Int), d + 60 < k → (i : Int) ≤ n → r = v ^ i → abs3 r ≤ 102945566047324 →
    (n ≤ (i : Int) + d ∨ 2 ≤ abs3 v ∧ 102945566047324 < 2 ^ d * abs3 r) → impl_PowerWord.l0 k v r n (i : Int) = some (pw v n.toNat) := by
  intro d
  induction d with
  | zero =>
    intro k i r hk hi hr hb h
    obtain ⟨k, rfl⟩ : ∃ m, k = m + 1 := ⟨k - 1, by omega⟩
    have hin : n = i := by
      rcases h with h | h
      · omega
      · have := h.2; simp at this; omega
    subst hin
    rw [impl_PowerWord.l0, if_neg (by omega), impl_WordOf_f _ _ _ (by omega) (by omega), bsome, pw_word r hb]
    unfold pw
    rw [show ((i : Int)).toNat = i from by omega, ← hr, if_pos hb]
  | succ d ih =>
    intro k i r hk hi hr hb h
    obtain ⟨k, rfl⟩ : ∃ m, k = m + 1 := ⟨k - 1, by omega⟩
    rw [impl_PowerWord.l0]
    by_cases hc : (i : Int) < n
    · rw [if_pos hc, impl_product_f k r v (by omega) hb hv, bsome]
      have he : r * v = v ^ (i + 1) := by rw [hr, Int.pow_succ]
      by_cases hf : abs3 (r * v) ≤ 102945566047324
      · rw [if_pos hf, if_pos rfl, w64 _ (by omega) (by omega), show ((i : Int) + 1) = ((i + 1 : Nat) : Int) from by omega]
        refine ih k (i + 1) _ (by omega) (by omega) he hf ?_
        rcases h with h | h
        · left; omega
        · right
          refine ⟨h.1, ?_⟩
          have h2 := h.2
          rw [abs3_mul]
          rw [Int.pow_succ, Int.mul_assoc] at h2
          have := Int.mul_le_mul_of_nonneg_left h.1 (abs3_nonneg r)
          have p2 : (0 : Int) ≤ 2 ^ d := Int.le_of_lt (Int.pow_pos (by omega))
          have := Int.mul_le_mul_of_nonneg_left (show 2 * abs3 r ≤ abs3 r * abs3 v by omega) p2
          omega
      · rw [if_neg hf, if_neg (by simp)]
        rw [he] at hf
        have := pw_big v 102945566047324 (by omega) i (by omega) (n.toNat - (i + 1))
        rw [show i + 1 + (n.toNat - (i + 1)) = n.toNat from by omega] at this
        unfold pw
        rw [if_neg (by omega)]
    · rw [if_neg hc, impl_WordOf_f _ _ _ (by omega) (by omega), bsome, pw_word r hb]
      unfold pw
      rw [show n.toNat = i from by omega, ← hr, if_pos hb]
theorem negone_pow (m : Nat) : (-1 : Int) ^ m = 1 - 2 * ((m % 2 : Nat) : Int) := by
  induction m with
  | zero => rfl
  | succ m ih => rw [Int.pow_succ, ih]; omega
theorem small_pow (v : Int) (hv : abs3 v ≤ 1) (n m : Nat) (h : n % 2 = m % 2) (hn : 1 ≤ n) (hm : 1 ≤ m) : v ^ n = v ^ m := by
  have b := abs3_bd hv
  have : v = -1 ∨ v = 0 ∨ v = 1 := by omega
  rcases this with rfl | rfl | rfl
  · rw [negone_pow, negone_pow, h]
  · rw [Int.zero_pow (by omega), Int.zero_pow (by omega)]
  · rw [Int.one_pow, Int.one_pow]
def powOf (w : List Int) (n : Int) : List Int × Bool := if Word w ∧ 0 ≤ n then pw (val w) n.toNat else ([], false)
theorem val_abs {w : List Int} (h : Word w) : abs3 (val w) ≤ 102945566047324 := by
  have b := h.bd
  rw [lim30] at b
  exact abs3_le (by omega) b.2
theorem impl_PowerWord_f (k : Nat) (w : List Int) (n : Int) (hk : 3000000 ≤ k) (hw : w.length ≤ 2000000) (hn : n ≤ 9223372036854775807) : impl_PowerWord.f k w n = some (powOf w n) := by
  obtain ⟨k, rfl⟩ : ∃ m, k = m + 3 := ⟨k - 3, by omega⟩
  unfold impl_PowerWord.f powOf
  rw [impl_IsWord_f _ w (by omega) hw, bsome]
  by_cases h : Word w
  · rw [if_pos (by simpa using h), impl_PowerWord.j0]
    by_cases h0 : n < 0
    · rw [if_pos (by simpa using h0), if_neg (fun z => by omega)]
    · have ha := val_abs h
      have hb := abs3_bd ha
      rw [if_neg (by simpa using h0), if_pos ⟨h, by omega⟩, impl_value_f _ w (by omega) h.2.1 h.2.2.digs, bsome, impl_size_f _ (by omega) (by omega), bsome]
      by_cases h1 : abs3 (val w) ≤ 1
      · rw [if_pos h1, impl_PowerWord.j1]
        by_cases h2 : n > 2
        · have ht : Int.tmod n 2 = n % 2 := Int.tmod_eq_emod_of_nonneg (by omega)
          rw [if_pos (by simpa using h2), ht, w64 _ (by omega) (by omega), impl_PowerWord.j2]
          have := impl_PowerWord_l0 (val w) ha (2 + n % 2) (by omega) 3 k 0 1 (by omega) (by omega) (by simp) (by simp [abs3]) (Or.inl (by omega))
          rw [show ((0 : Nat) : Int) = 0 from rfl] at this
          rw [this]
          unfold pw
          rw [small_pow (val w) h1 (2 + n % 2).toNat n.toNat (by omega) (by omega) (by omega)]
        · rw [if_neg (by simpa using h2), impl_PowerWord.j2]
          have := impl_PowerWord_l0 (val w) ha n (by omega) 3 k 0 1 (by omega) (by omega) (by simp) (by simp [abs3]) (Or.inl (by omega))
          rw [show ((0 : Nat) : Int) = 0 from rfl] at this
          exact this
      · rw [if_neg h1, impl_PowerWord.j1, if_neg (by simp), impl_PowerWord.j2]
        have := impl_PowerWord_l0 (val w) ha n (by omega) 60 k 0 1 (by omega) (by omega) (by simp) (by simp [abs3]) (Or.inr ⟨by omega, by simp [abs3]⟩)
        rw [show ((0 : Nat) : Int) = 0 from rfl] at this
        exact this
  · rw [if_neg (by simpa using h), impl_PowerWord.j0, if_pos rfl, if_neg (fun z => h z.1)]
theorem laws_ints_l0 (a b : List Int) (hl : a.length ≤ 2000000) (hb : a.length = b.length) : ∀ (d k i : Nat), i + d = a.length → d < k →
    laws_ints.l0 k a b (a.length : Int) (i : Int) = some (decide (a.drop i = b.drop i)) := by
  intro d
  induction d with
  | zero =>
    intro k i h hk
    obtain ⟨k, rfl⟩ : ∃ m, k = m + 1 := ⟨k - 1, by omega⟩
    simp only [laws_ints.l0]
    rw [if_neg (by omega), List.drop_eq_nil_of_le (by omega), List.drop_eq_nil_of_le (by omega)]; simp
  | succ d ih =>
    intro k i h hk
    obtain ⟨k, rfl⟩ : ∃ m, k = m + 1 := ⟨k - 1, by omega⟩
    simp only [laws_ints.l0]
    rw [if_pos (by omega), if_pos (by omega), if_pos (by omega), if_pos (by omega), drop_rd a i (by omega), drop_rd b i (by omega), w64 _ (by omega) (by omega)]
    by_cases c : rd a (i : Int) = rd b (i : Int)
    · rw [if_pos c, show (i : Int) + 1 = ((i + 1 : Nat) : Int) from by omega, ih k (i + 1) (by omega) (by omega)]
      simp [c]
    · rw [if_neg c]; simp [c]
theorem laws_ints_f (k : Nat) (a b : List Int) (hk : 2000001 ≤ k) (hl : a.length ≤ 2000000) : laws_ints.f k a b = some (decide (a = b)) := by
  unfold laws_ints.f
  by_cases h : a.length = b.length
  · rw [if_pos (by omega)]
    have := laws_ints_l0 a b hl h a.length k 0 (by omega) (by omega)
    simpa using this
  · rw [if_neg (by omega)]
    have : a ≠ b := fun e => h (by rw [e])
    simp [this]
theorem small_fit (v : Int) (n : Nat) (hn : n ≤ 8) (h0 : -13 ≤ v) (h1 : v ≤ 13) : abs3 (v ^ n) ≤ 815730721 := by
  rw [abs3_nat, Int.natAbs_pow]
  have a : v.natAbs ^ n ≤ 13 ^ n := Nat.pow_le_pow_left (by omega) n
  have b : 13 ^ n ≤ 13 ^ 8 := Nat.pow_le_pow_right (by omega) hn
  have c : 13 ^ 8 = 815730721 := by decide
  omega
theorem powEnd (k : Nat) (w x y : List Int) (hk : 1000000000000000010 ≤ k) (hw : Word w) (lw : w.length ≤ 3) (hx : Word x) (hy : Word y) (lx : x.length ≤ 12) (ly : y.length ≤ 12) : laws_FnPowers.j1 (k + 1) w x y ((Int.gcd (val x) (val y) : Nat) : Int) false = some true := by
  rw [laws_FnPowers.j1, if_neg (by simp)]
  have v : ∀ z, Word z → impl_ValueOf.f k z = some (val z) := fun z hz => by
    have := hz.2.1
    rw [impl_ValueOf_f k z (by omega) (by omega), if_pos hz]
  rw [v x hx, bsome, v y hy, bsome]
  by_cases g : Int.gcd (val x) (val y) = 0
  · have := Int.gcd_eq_zero_iff.1 g
    rw [g, if_pos (show ((0 : Nat) : Int) = 0 from rfl), if_pos this.1, this.2]; rfl
  · rw [if_neg (by omega)]
    have x1 := hx.1
    have y1 := hy.1
    have w1 := hw.1
    have m1 : Word x ∧ Word w ∧ x.length + w.length ≤ 30 := ⟨hx, hw, by omega⟩
    have m2 : Word y ∧ Word w ∧ y.length + w.length ≤ 30 := ⟨hy, hw, by omega⟩
    have e1 : mulOf x w = (word (val x * val w) (x.length + w.length), true) := if_pos m1
    have e2 : mulOf y w = (word (val y * val w) (y.length + w.length), true) := if_pos m2
    have b1 := mul_bds m1
    have b2 := mul_bds m2
    have p1 := word_word (val x * val w) (x.length + w.length) (by omega) (by omega)
    have p2 := word_word (val y * val w) (y.length + w.length) (by omega) (by omega)
    have v1 := val_word (x.length + w.length) (val x * val w) b1.1.1 b1.1.2
    have v2 := val_word (y.length + w.length) (val y * val w) b2.1.1 b2.1.2
    rw [impl_MultiplyWords_f k x w (by omega) (by omega) (by omega), e1, bsome, impl_MultiplyWords_f k y w (by omega) (by omega) (by omega), e2, bsome]
    simp only
    generalize word (val x * val w) (x.length + w.length) = X at *
    generalize word (val y * val w) (y.length + w.length) = Y at *
    have X1 := p1.1
    have X2 := p1.2.1
    have Y1 := p2.1
    have Y2 := p2.2.1
    have gb := (gcd_words p1 p2).1
    have gg : gcdOf X Y = (word (Int.gcd (val X) (val Y)) (max X.length Y.length), true) := if_pos ⟨p1, p2⟩
    have hm : max X.length Y.length ≤ 30 := by omega
    have hm1 : 1 ≤ max X.length Y.length := by omega
    have lm : lim (max X.length Y.length) ≤ lim 30 := lim_mono hm
    rw [lim30] at lm
    have vg := val_word (max X.length Y.length) ((Int.gcd (val X) (val Y) : Nat) : Int) (by have := lim_nonneg (max X.length Y.length); omega) gb
    have pg := word_word ((Int.gcd (val X) (val Y) : Nat) : Int) (max X.length Y.length) hm1 hm
    rw [impl_GcdWords_f k X Y (by omega) (by omega) (by omega), gg, bsome, if_pos (Int.tmod_eq_zero_of_dvd (Int.gcd_dvd_left _ _)), if_pos (Int.tmod_eq_zero_of_dvd (Int.gcd_dvd_right _ _))]
    simp only [↓reduceIte]
    rw [v _ pg, bsome, v w hw, bsome, vg]
    have bw := hw.bd
    rw [lim30] at bw
    rw [laws_abs_f _ (by omega) (by omega), bsome]
    have ee : ((Int.gcd (val X) (val Y) : Nat) : Int) = (Int.gcd (val x) (val y) : Nat) * abs3 (val w) := by
      rw [v1, v2, Int.gcd_mul_right, abs3_nat, Int.natCast_mul]
    rw [← ee, w64 _ (by omega) (by omega)]
    simp
end FnPowersParts
open FnPowersParts
attribute [local congr] bind_left

theorem FnPowers : laws_FnPowers.Pure := by
  intro l0 _ hl hwf
  obtain ⟨K, hK⟩ : ∃ K, 2000000000000000000 ≤ K := ⟨_, Nat.le_refl _⟩
  refine ⟨K + 2, ?_⟩
  unfold laws_FnPowers.f
  by_cases h0 : (l0.length : Int) > 1048576
  · rw [if_pos h0]
  obtain ⟨w, ew, hw, lw⟩ := spec_MakeWord_f (K + 2) l0 3 (by omega) (by omega) (by omega) (by omega)
  obtain ⟨t, et, ht⟩ := laws_at_f l0 1 (by omega) hwf (by omega) (by omega)
  obtain ⟨u, eu, hu⟩ := laws_at_f l0 2 (by omega) hwf (by omega) (by omega)
  have mt := (tmod_range (n := t) (m := 5) (by omega)).1 ht.1
  have mu := (tmod_range (n := u) (m := 5) (by omega)).1 hu.1
  rw [if_neg h0, ew, bsome, et, bsome, eu, bsome]
  generalize Int.tmod t 5 = p at *
  generalize Int.tmod u 5 = q at *
  have bw := val_bd w hw.2.2
  have lw3 : lim w.length ≤ lim 3 := lim_mono (by omega)
  have l3 : lim 3 = 13 := by decide
  have fit : ∀ n : Nat, n ≤ 8 → abs3 (val w ^ n) ≤ 815730721 := fun n hn => small_fit (val w) n hn (by omega) (by omega)
  have pp : ∀ n : Int, 0 ≤ n → n ≤ 8 → powOf w n = (word (val w ^ n.toNat) 30, true) := fun n h1 h2 => by
    have := fit n.toNat (by omega)
    unfold powOf pw
    rw [if_pos ⟨hw, h1⟩, if_pos (by omega)]
  have vv : ∀ (k : Nat) (_ : 2000001 ≤ k) (n : Nat), n ≤ 8 → impl_ValueOf.f k (word (val w ^ n) 30) = some (val w ^ n) := fun k hk n hn => by
    have := abs3_bd (fit n hn)
    rw [impl_ValueOf_f k _ hk (by rw [length_word]; omega), if_pos (word_word _ _ (by omega) (by omega)), val_word _ _ (by rw [lim30]; omega) (by rw [lim30]; omega)]
  have e : val w ^ p.toNat * val w ^ q.toNat = val w ^ (p + q).toNat := by
    rw [← Int.pow_add]
    congr 1; omega
  have bf := abs3_bd (fit (p + q).toNat (by omega))
  have w1 := hw.2.1
  rw [impl_PowerWord_f _ w p (by omega) (by omega) (by omega), pp p (by omega) (by omega), bsome, impl_PowerWord_f _ w q (by omega) (by omega) (by omega), pp q (by omega) (by omega), bsome, w64 (p + q) (by omega) (by omega), impl_PowerWord_f _ w (p + q) (by omega) (by omega) (by omega), pp (p + q) (by omega) (by omega), bsome, if_pos rfl, if_pos rfl, if_pos rfl, if_pos (by simp only; rw [length_word]; rfl), vv _ (by omega) _ (by omega), bsome, vv _ (by omega) _ (by omega), bsome, vv _ (by omega) _ (by omega), bsome]
  rw [e, w64 _ (by omega) (by omega), bne_self_eq_false, laws_FnPowers.j0, if_neg (by simp)]
  obtain ⟨c, ec, hc⟩ := laws_fresh_f (K + 1) l0 3 (by omega) (by omega)
  obtain ⟨x, ex, hx, lx⟩ := spec_MakeWord_f (K + 1) c 12 (by omega) (by omega) (by omega) (by omega)
  obtain ⟨c2, ec2, hc2⟩ := laws_fresh_f (K + 1) l0 5 (by omega) (by omega)
  obtain ⟨y, ey, hy, ly⟩ := spec_MakeWord_f (K + 1) c2 12 (by omega) (by omega) (by omega) (by omega)
  have x1 := hx.1
  have y1 := hy.1
  have g1 : gcdOf x y = (word (Int.gcd (val x) (val y)) (max x.length y.length), true) := if_pos ⟨hx, hy⟩
  have g2 : gcdOf y x = (word (Int.gcd (val x) (val y)) (max x.length y.length), true) := by
    unfold gcdOf
    rw [if_pos ⟨hy, hx⟩, Int.gcd_comm, Nat.max_comm]
  have gw := (gcd_words hx hy).1
  have hm : max x.length y.length ≤ 30 := by omega
  have hm1 : 1 ≤ max x.length y.length := by omega
  have vg := val_word (max x.length y.length) ((Int.gcd (val x) (val y) : Nat) : Int) (by have := lim_nonneg (max x.length y.length); omega) gw
  have pg := word_word ((Int.gcd (val x) (val y) : Nat) : Int) (max x.length y.length) hm1 hm
  have lg := length_word ((Int.gcd (val x) (val y) : Nat) : Int) (max x.length y.length)
  rw [ec, bsome, ex, bsome, ec2, bsome, ey, bsome, impl_GcdWords_f _ x y (by omega) (by omega) (by omega), g1, bsome, impl_GcdWords_f _ y x (by omega) (by omega) (by omega), g2, bsome]
  simp only
  rw [impl_ValueOf_f _ _ (by omega) (by omega), if_pos pg, bsome, vg, if_pos True.intro, if_pos True.intro, laws_ints_f _ _ _ (by omega) (by omega), bsome, if_pos (by simp), if_neg (by omega), lg]
  have fin := powEnd K w x y (by omega) hw (by omega) hx hy (by omega) (by omega)
  by_cases c1 : (x.length : Int) < (y.length : Int)
  · rw [if_pos c1, Nat.max_eq_right (by omega), bne_self_eq_false]
    exact fin
  · rw [if_neg c1, Nat.max_eq_left (by omega), bne_self_eq_false]
    exact fin

end Go.Proofs.Ytcgfcnpiekcofaa.Pure
