/- For every text of draws: a fraction in trits is the nearest one, and more trits go on from it, but for rounding; no condition. -/
import Derived.Test.YtfhbdknmjbgghaaPx3
import Derived.Test.YtfhbdknmjbgghaaGlue
namespace Go.Proofs.Ytfhbdknmjbgghaa.Pure
open Go.RowKit Go.Proofs.Ytfhbdknmjbgghaa.Tern Go.Proofs.Ytfhbdknmjbgghaa.P Go.Proofs.YtfhbdknmjbgghaaW.PrintWords Go.Proofs.YtfhbdknmjbgghaaW.PrintLast
set_option linter.unusedVariables false

namespace FnThirdsParts
theorem impl_IsTrit_f (a : Int) : impl_IsTrit.f a = some (decide (Trit a)) := by
  unfold impl_IsTrit.f Trit
  split
  · rename_i h
    simp [show -1 ≤ a from h]
  · rename_i h
    have : ¬ (-1 ≤ a) := h
    simp [this]
theorem impl_trits_l0 (l : List Int) (hl : l.length ≤ 2000000) : ∀ (d k i : Nat), i + d = l.length → d < k →
    impl_trits.l0 k l (l.length : Int) (i : Int) = some (decide (Trits (l.drop i))) := by
  intro d
  induction d with
  | zero =>
    intro k i h hk
    obtain ⟨k, rfl⟩ : ∃ m, k = m + 1 := ⟨k - 1, by omega⟩
    simp only [impl_trits.l0]
    rw [if_neg (by omega), List.drop_eq_nil_of_le (by omega)]
    simp [Trits.nil]
  | succ d ih =>
    intro k i h hk
    obtain ⟨k, rfl⟩ : ∃ m, k = m + 1 := ⟨k - 1, by omega⟩
    simp only [impl_trits.l0]
    rw [if_pos (by omega), if_pos (by omega), if_pos (by omega), impl_IsTrit_f, drop_rd l i (by omega)]
    simp only [bsome, Trits.cons]
    by_cases ht : Trit (rd l (i : Int))
    · rw [if_pos (by simpa using ht), w64 _ (by omega) (by omega)]
      have := ih k (i + 1) (by omega) (by omega)
      rw [show ((i + 1 : Nat) : Int) = (i : Int) + 1 from by omega] at this
      rw [this]; simp [ht]
    · rw [if_neg (by simpa using ht)]; simp [ht]
theorem impl_trits_f (k : Nat) (l : List Int) (hk : 2000001 ≤ k) (hl : l.length ≤ 2000000) : impl_trits.f k l = some (decide (Trits l)) := by
  unfold impl_trits.f
  have := impl_trits_l0 l hl l.length k 0 (by omega) (by omega)
  simpa using this
theorem impl_IsWord_f (k : Nat) (l : List Int) (hk : 2000001 ≤ k) (hl : l.length ≤ 2000000) : impl_IsWord.f k l = some (decide (Word l)) := by
  unfold impl_IsWord.f Word
  rw [impl_trits_f k l hk hl]
  by_cases h1 : 1 ≤ l.length
  · rw [if_pos (by omega)]
    by_cases h2 : l.length ≤ 30
    · rw [if_pos (by omega)]; simp [h1, h2]
    · rw [if_neg (by omega)]; simp [h2]
  · rw [if_neg (by omega)]; simp [h1]
theorem impl_value_l0 (l : List Int) (hl : l.length ≤ 30) (hb : Digs l) : ∀ (n k : Nat) (x : Int), n ≤ l.length → n < k → x = (n : Int) - 1 →
    impl_value.l0 k l (val (l.drop n)) x = some (val l) := by
  intro n
  induction n with
  | zero =>
    intro k x h hk hx
    obtain ⟨k, rfl⟩ : ∃ m, k = m + 1 := ⟨k - 1, by omega⟩
    simp only [impl_value.l0]
    rw [if_neg (by omega), List.drop_zero]
  | succ n ih =>
    intro k x h hk hx
    obtain ⟨k, rfl⟩ : ∃ m, k = m + 1 := ⟨k - 1, by omega⟩
    obtain rfl : x = (n : Int) := by omega
    have b1 := val_drop_bd l hl hb (n + 1)
    have b2 := hb _ (rd_mem l n (by omega))
    simp only [impl_value.l0]
    rw [if_pos (by omega), if_pos (by omega), if_pos (by omega), w64 (3 * _) (by omega) (by omega), w64 _ (by omega) (by omega), w64 _ (by omega) (by omega)]
    have e : val (l.drop n) = 3 * val (l.drop (n + 1)) + rd l (n : Int) := by rw [drop_rd l n (by omega)]; simp only [val]; omega
    rw [← e]
    exact ih k _ (by omega) (by omega) rfl
theorem impl_value_f (k : Nat) (l : List Int) (hk : 31 ≤ k) (hl : l.length ≤ 30) (hb : Digs l) : impl_value.f k l = some (val l) := by
  unfold impl_value.f
  have := impl_value_l0 l hl hb l.length k (wrap64 ((l.length : Int) - 1)) (Nat.le_refl _) (by omega) (w64 _ (by omega) (by omega))
  rw [List.drop_length] at this
  exact this
theorem impl_ValueOf_f (k : Nat) (l : List Int) (hk : 2000001 ≤ k) (hl : l.length ≤ 2000000) : impl_ValueOf.f k l = some (if Word l then val l else 0) := by
  unfold impl_ValueOf.f
  rw [impl_IsWord_f k l hk hl]
  by_cases h : Word l
  · simp [h, impl_value_f k l (by omega) h.2.1 h.2.2.digs]
  · simp [h]
theorem impl_power_l0 (a : Int) (ha : a ≤ 30) : ∀ (d k i : Nat), (i : Int) + d = a → d < k → impl_power.l0 k (pow3 i) a (i : Int) = some (pow3 a.toNat) := by
  intro d
  induction d with
  | zero =>
    intro k i h hk
    obtain ⟨k, rfl⟩ : ∃ m, k = m + 1 := ⟨k - 1, by omega⟩
    simp only [impl_power.l0]
    rw [if_neg (by omega), show a.toNat = i from by omega]
  | succ d ih =>
    intro k i h hk
    obtain ⟨k, rfl⟩ : ∃ m, k = m + 1 := ⟨k - 1, by omega⟩
    have h1 := pow3_pos i
    have h2 : pow3 i ≤ pow3 30 := pow3_mono (by omega)
    rw [pow3_30] at h2
    simp only [impl_power.l0]
    rw [if_pos (by omega), w64 _ (by omega) (by omega), w64 _ (by omega) (by omega)]
    have := ih k (i + 1) (by omega) (by omega)
    simp only [pow3] at this
    rw [show pow3 i * 3 = 3 * pow3 i from by omega, show (i : Int) + 1 = ((i + 1 : Nat) : Int) from by omega]
    exact this
theorem impl_power_f (k : Nat) (a : Int) (hk : 31 ≤ k) (ha : a ≤ 30) : impl_power.f k a = some (pow3 a.toNat) := by
  unfold impl_power.f
  by_cases h : 0 ≤ a
  · exact impl_power_l0 a ha a.toNat k 0 (by omega) (by omega)
  · obtain ⟨k, rfl⟩ : ∃ m, k = m + 1 := ⟨k - 1, by omega⟩
    simp only [impl_power.l0]
    rw [if_neg (by omega), show a.toNat = 0 from by omega]; rfl
theorem impl_LimitOf_f (k : Nat) (a : Int) (hk : 31 ≤ k) : impl_LimitOf.f k a = some (if 1 ≤ a ∧ a ≤ 30 then lim a.toNat else 0) := by
  unfold impl_LimitOf.f
  by_cases h1 : a < 1
  · rw [if_pos h1, if_neg (by omega)]
  · rw [if_neg h1]
    by_cases h2 : a > 30
    · rw [if_pos h2, if_neg (by omega)]
    · rw [if_neg h2, impl_power_f k a hk (by omega), if_pos (by omega)]
      have h3 := pow3_lim a.toNat
      have h4 := lim_nonneg a.toNat
      have h5 : lim a.toNat ≤ lim 30 := lim_mono (by omega)
      rw [lim30] at h5
      simp only [bsome]
      rw [w64 (pow3 _ - 1) (by omega) (by omega), h3, show 2 * lim a.toNat + 1 - 1 = 2 * lim a.toNat from by omega, Int.mul_tdiv_cancel_left _ (by omega), w64 _ (by omega) (by omega)]
theorem impl_fits_f (k : Nat) (n a : Int) (hk : 31 ≤ k) (h1 : 1 ≤ a) (h2 : a ≤ 30) : impl_fits.f k n a = some (decide (-lim a.toNat ≤ n ∧ n ≤ lim a.toNat)) := by
  unfold impl_fits.f
  have h4 := lim_nonneg a.toNat
  have h5 : lim a.toNat ≤ lim 30 := lim_mono (by omega)
  rw [lim30] at h5
  rw [impl_LimitOf_f k a hk, if_pos ⟨h1, h2⟩]
  simp only [bsome]
  rw [w64 _ (by omega) (by omega)]
  by_cases h : n ≥ -lim a.toNat
  · rw [if_pos h]; simp [show -lim a.toNat ≤ n from h]
  · rw [if_neg h]
    have : ¬ -lim a.toNat ≤ n := h
    simp [this]
theorem impl_carried_tmod (n : Int) : ∃ c, impl_carried.f (Int.tmod n 3) = some (low3 n, c) := by
  unfold impl_carried.f low3
  rcases Int.le_total 0 n with h | h
  · rw [tmod3_nonneg n h]
    split
    · rw [w64 _ (by omega) (by omega)]; exact ⟨1, by congr 2; omega⟩
    · rw [if_neg (by omega)]; exact ⟨0, by congr 2; omega⟩
  · have e2 := tmod3_nonpos n h
    rw [e2]
    split
    · omega
    · split
      · rw [w64 _ (by omega) (by omega)]; exact ⟨-1, by congr 2; omega⟩
      · exact ⟨0, by congr 2; omega⟩
theorem tdiv_low3 (n : Int) : Int.tdiv (n - low3 n) 3 = rest3 n := by
  have := low3_rest3 n
  rw [show n - low3 n = 3 * rest3 n from by omega, Int.mul_tdiv_cancel_left _ (by omega)]
theorem rest3_bd (n B : Int) (hB : 0 ≤ B) (h0 : -B ≤ n) (h1 : n ≤ B) : -B ≤ rest3 n ∧ rest3 n ≤ B := by unfold rest3; omega
theorem impl_WordOf_l0 (a : Int) (ha : a ≤ 30) : ∀ (d k i : Nat) (n : Int) (acc : List Int), (i : Int) + d = a → d < k → acc.length = i → -1000000000000000000 ≤ n → n ≤ 1000000000000000000 →
    impl_WordOf.l0 k n acc a (i : Int) = some (acc ++ word n d, true) := by
  intro d
  induction d with
  | zero =>
    intro k i n acc h hk hl h0 h1
    obtain ⟨k, rfl⟩ : ∃ m, k = m + 1 := ⟨k - 1, by omega⟩
    simp only [impl_WordOf.l0]
    rw [if_neg (by omega)]; simp [word]
  | succ d ih =>
    intro k i n acc h hk hl h0 h1
    obtain ⟨k, rfl⟩ : ∃ m, k = m + 1 := ⟨k - 1, by omega⟩
    obtain ⟨c, hc⟩ := impl_carried_tmod n
    have ht := low3_trit n
    unfold Trit at ht
    have hu := rest3_bd n 1000000000000000000 (by omega) (by omega) h1
    simp only [impl_WordOf.l0]
    rw [if_pos (by omega), hc]
    simp only [bsome]
    rw [if_pos (by omega), w64 (n - low3 n) (by omega) (by omega), tdiv_low3, w64 (rest3 n) (by omega) (by omega), w64 _ (by omega) (by omega), show (i : Int) + 1 = ((i + 1 : Nat) : Int) from by omega,
      ih k (i + 1) (rest3 n) (acc ++ [low3 n]) (by omega) (by omega) (by simp [hl]) hu.1 hu.2]
    simp [word]
theorem impl_WordOf_f (k : Nat) (n a : Int) (hk : 40 ≤ k) (ha : -9223372036854775808 ≤ a) : impl_WordOf.f k n a = some (wordOf n a) := by
  obtain ⟨k, rfl⟩ : ∃ m, k = m + 1 := ⟨k - 1, by omega⟩
  unfold impl_WordOf.f wordOf
  by_cases h1 : a < 1
  · rw [if_pos h1, if_neg (by omega)]; simp only [impl_WordOf.j0]; rfl
  · rw [if_neg h1]
    by_cases h2 : a > 30
    · rw [if_pos h2, if_neg (by omega)]; simp only [impl_WordOf.j0]; rfl
    · rw [if_neg h2, impl_fits_f _ n a (by omega) (by omega) (by omega)]
      simp only [bsome, impl_WordOf.j0]
      have h5 : lim a.toNat ≤ lim 30 := lim_mono (by omega)
      rw [lim30] at h5
      by_cases h : -lim a.toNat ≤ n ∧ n ≤ lim a.toNat
      · rw [if_neg (by simpa using h), if_pos ⟨by omega, by omega, h⟩]
        have := impl_WordOf_l0 a (by omega) a.toNat k 0 n [] (by omega) (by omega) rfl (by omega) (by omega)
        simpa using this
      · rw [if_pos (by rw [decide_eq_false h]; rfl), if_neg (fun hh => h hh.2.2)]
theorem mx_abs (d : Int) (h : -9223372036854775807 ≤ d) (h1 : d ≤ 9223372036854775807) : mx d (wrap64 (-d)) = abs3 d := by
  rw [w64 _ (by omega) (by omega)]
  unfold mx abs3
  split
  · rw [if_pos (by omega)]
  · split <;> omega
theorem impl_size_f (d : Int) (h : -9223372036854775807 ≤ d) (h1 : d ≤ 9223372036854775807) : impl_size.f d = some (abs3 d) := by
  unfold impl_size.f
  rw [mx_abs d h h1]
theorem laws_abs_f (d : Int) (h : -9223372036854775807 ≤ d) (h1 : d ≤ 9223372036854775807) : laws_abs.f d = some (abs3 d) := by
  unfold laws_abs.f
  rw [mx_abs d h h1]
theorem abs3_le {d B : Int} (h : -B ≤ d) (h1 : d ≤ B) : abs3 d ≤ B := by unfold abs3; split <;> omega
theorem pow3_20 : pow3 20 = 3486784401 := by decide
/-- The fraction's word: the quotient to the nearest, the lesser one in a tie. -/
theorem thirds_bd {n d : Int} {k : Nat} (hd : 0 < d) (h : 2 * abs3 n < d) : -lim k ≤ bquo (n * pow3 k) d ∧ bquo (n * pow3 k) d ≤ lim k := by
  have e := bquo_brem (n := n * pow3 k) (d := d) (by omega)
  have b := brem_bd (n := n * pow3 k) (d := d) (by omega)
  have ad : abs3 d = d := by unfold abs3; rw [if_neg (by omega)]
  rw [ad] at b
  have p := pow3_lim k
  have l0 := lim_nonneg k
  have pp := pow3_pos k
  have n1 : -(d - 1) ≤ 2 * n ∧ 2 * n ≤ d - 1 := by unfold abs3 at h; split at h <;> omega
  have m1 : 0 ≤ (d - 1 - 2 * n) * pow3 k := Int.mul_nonneg (by omega) (by omega)
  have m2 : 0 ≤ (d - 1 + 2 * n) * pow3 k := Int.mul_nonneg (by omega) (by omega)
  simp only [Int.sub_mul, Int.add_mul, Int.one_mul, Int.mul_assoc] at m1 m2
  generalize bquo (n * pow3 k) d = q at *
  generalize brem (n * pow3 k) d = r at *
  constructor
  · rcases Int.lt_or_le q (-lim k) with hlt | hle
    · exfalso
      have m3 : 0 ≤ (-lim k - 1 - q) * d := Int.mul_nonneg (by omega) (by omega)
      simp only [Int.sub_mul, Int.neg_mul, Int.one_mul] at m3
      rw [p] at m1 m2 e
      simp only [Int.mul_add, Int.mul_one] at m1 m2 e
      have c1 : d * (2 * lim k) = 2 * (lim k * d) := by rw [Int.mul_left_comm, Int.mul_comm d]
      omega
    · exact hle
  · rcases Int.lt_or_le (lim k) q with hlt | hle
    · exfalso
      have m3 : 0 ≤ (q - lim k - 1) * d := Int.mul_nonneg (by omega) (by omega)
      simp only [Int.sub_mul, Int.one_mul] at m3
      rw [p] at m1 m2 e
      simp only [Int.mul_add, Int.mul_one] at m1 m2 e
      have c1 : d * (2 * lim k) = 2 * (lim k * d) := by rw [Int.mul_left_comm, Int.mul_comm d]
      omega
    · exact hle
def thirdsOf (n d k : Int) : List Int × Bool := if 1 ≤ d ∧ d ≤ 1000000 ∧ 1 ≤ k ∧ k ≤ 20 ∧ 2 * abs3 n < d then (word (bquo (n * pow3 k.toNat) d) k.toNat, true) else ([], false)
theorem thirdsOf_len (n d k : Int) : (thirdsOf n d k).1.length ≤ 30 := by
  unfold thirdsOf
  split
  · simp only [length_word]; omega
  · simp
theorem thirds_small {n d : Int} {k : Nat} (hd2 : d ≤ 1000000) (h : 2 * abs3 n < d) (hk : k ≤ 20) : (-500000 ≤ n ∧ n ≤ 500000) ∧ (1 ≤ pow3 k ∧ pow3 k ≤ 3486784401) ∧ -1743392200500000 ≤ n * pow3 k ∧ n * pow3 k ≤ 1743392200500000 := by
  have n1 : -500000 ≤ n ∧ n ≤ 500000 := by unfold abs3 at h; split at h <;> omega
  have pp := pow3_pos k
  have p20 : pow3 k ≤ pow3 20 := pow3_mono hk
  rw [pow3_20] at p20
  have := mul_le (x := n) (y := pow3 k) (a := 500000) (b := 3486784401) n1 ⟨by omega, p20⟩
  omega
theorem impl_ThirdsOf_f (K : Nat) (n d k : Int) (hK : 100 ≤ K) (hn0 : -9223372036854775808 ≤ n) (hn1 : n ≤ 9223372036854775807) : impl_ThirdsOf.f K n d k = some (thirdsOf n d k) := by
  obtain ⟨K, rfl⟩ : ∃ m, K = m + 1 := ⟨K - 1, by omega⟩
  unfold impl_ThirdsOf.f thirdsOf
  have no : ∀ b : Bool, b = true → impl_ThirdsOf.j0 (K + 1) n d k b = some ([], false) := by
    intro b hb; rw [impl_ThirdsOf.j0, if_pos hb]
  by_cases h1 : d < 1
  · rw [if_pos h1, no true rfl, if_neg (by omega)]
  rw [if_neg h1]
  by_cases h2 : d > 1000000
  · rw [if_pos h2, no true rfl, if_neg (by omega)]
  rw [if_neg h2]
  by_cases h3 : k < 1
  · rw [if_pos h3, no true rfl, if_neg (by omega)]
  rw [if_neg h3]
  by_cases h4 : k > 20
  · rw [if_pos h4, no true rfl, if_neg (by omega)]
  rw [if_neg h4]
  by_cases h5 : n ≥ d
  · rw [if_pos h5, no true rfl, if_neg (fun h => by have := h.2.2.2.2; unfold abs3 at this; split at this <;> omega)]
  rw [if_neg h5, w64 (-d) (by omega) (by omega)]
  by_cases h6 : n ≤ -d
  · rw [if_pos h6, no true rfl, if_neg (fun h => by have := h.2.2.2.2; unfold abs3 at this; split at this <;> omega)]
  rw [if_neg h6, impl_size_f n (by omega) (by omega), bsome]
  have a1 : 0 ≤ abs3 n := abs3_nonneg n
  have a2 := abs3_le (d := n) (B := 1000000) (by omega) (by omega)
  rw [w64 (2 * abs3 n) (by omega) (by omega)]
  by_cases h7 : 2 * abs3 n ≥ d
  · rw [no _ (decide_eq_true h7), if_neg (by omega)]
  · have hs := thirds_small (n := n) (d := d) (k := k.toNat) (by omega) (by omega) (by omega)
    have hq := thirds_bd (n := n) (d := d) (k := k.toNat) (by omega) (by omega)
    have hl : lim k.toNat ≤ lim 30 := lim_mono (by omega)
    rw [lim30] at hl
    have e := bquo_brem (n := n * pow3 k.toNat) (d := d) (by omega)
    have b := brem_bd (n := n * pow3 k.toNat) (d := d) (by omega)
    have ad : abs3 d = d := by unfold abs3; rw [if_neg (by omega)]
    rw [ad] at b
    rw [impl_ThirdsOf.j0, if_neg (by simpa using h7), if_pos ⟨by omega, by omega, by omega, by omega, by omega⟩, impl_power_f _ _ (by omega) (by omega), bsome, w64 (2 * n) (by omega) (by omega), w64 (2 * d) (by omega) (by omega), if_neg (by omega)]
    have e2 : 2 * n * pow3 k.toNat = 2 * (n * pow3 k.toNat) := Int.mul_assoc ..
    rw [e2, w64 (2 * (n * pow3 k.toNat)) (by omega) (by omega), w64 (2 * (n * pow3 k.toNat) - d) (by omega) (by omega)]
    have t1 := tmod_tdiv (2 * (n * pow3 k.toNat) - d) (2 * d)
    have t2 := tmod_range (n := 2 * (n * pow3 k.toNat) - d) (m := 2 * d) (by omega)
    generalize n * pow3 k.toNat = x at *
    generalize bquo x d = q at *
    generalize brem x d = r at *
    generalize Int.tmod (2 * x - d) (2 * d) = u at *
    have tb : (Int.tdiv (2 * x - d) (2 * d)).natAbs ≤ (2 * x - d).natAbs := by rw [Int.natAbs_tdiv]; exact Nat.div_le_self _ _
    generalize Int.tdiv (2 * x - d) (2 * d) = v at *
    have e3 : 2 * d * v = v * (2 * d) := Int.mul_comm ..
    have e4 : v * (2 * d) = 2 * (v * d) := by rw [Int.mul_left_comm]
    rw [w64 v (by omega) (by omega), w64 (v * (2 * d)) (by omega) (by omega)]
    have uniq : ∀ y : Int, 2 * x - d ≤ 2 * (y * d) → 2 * (y * d) < 2 * x - d + 2 * d → y = q := by
      intro y y1 y2
      rcases Int.lt_trichotomy y q with hlt | heq | hgt
      · exfalso
        have m : 0 ≤ (q - y - 1) * d := Int.mul_nonneg (by omega) (by omega)
        simp only [Int.sub_mul, Int.one_mul] at m
        omega
      · exact heq
      · exfalso
        have m : 0 ≤ (y - q - 1) * d := Int.mul_nonneg (by omega) (by omega)
        simp only [Int.sub_mul, Int.one_mul] at m
        omega
    by_cases c : v * (2 * d) < 2 * x - d
    · have : v + 1 = q := uniq (v + 1) (by rw [Int.add_mul]; omega) (by rw [Int.add_mul]; omega)
      rw [if_pos c, w64 (v + 1) (by omega) (by omega), this, impl_WordOf_f _ _ _ (by omega) (by omega), bsome, wordOf_yes (by omega) (by omega) hq.1 hq.2]
    · have : v = q := uniq v (by omega) (by omega)
      rw [if_neg c, this, impl_WordOf_f _ _ _ (by omega) (by omega), bsome, wordOf_yes (by omega) (by omega) hq.1 hq.2]
theorem laws_at_f (l : List Int) (i : Int) (hl : l.length ≤ 2000000) (hw : ∀ x ∈ l, (Lit.int .u8 x).wf = true) (h0 : 0 ≤ i) (h1 : i ≤ 1000) : ∃ v, laws_at.f l i = some v ∧ 0 ≤ v ∧ v ≤ 255 := by
  unfold laws_at.f
  by_cases c : i < (l.length : Int)
  · have := wf8 (hw _ (rd_mem l i.toNat (by omega)))
    rw [show ((i.toNat : Nat) : Int) = i from by omega] at this
    rw [if_pos c, if_pos h0, w64 _ (by omega) (by omega)]
    exact ⟨_, rfl, this⟩
  · rw [if_neg c, w64 (i * 37) (by omega) (by omega), w64 ((l.length : Int) * 11) (by omega) (by omega), w64 _ (by omega) (by omega)]
    have := (tmod_range (n := i * 37 + (l.length : Int) * 11) (m := 256) (by omega)).1 (by omega)
    exact ⟨_, rfl, by omega, by omega⟩
theorem spec_l5Lift_f (k : Nat) (x n : Int) (hk : 50 ≤ k) (hn : n ≤ 30) (h0 : -10000 ≤ x) (h1 : x ≤ 10000) : spec_l5Lift.f k x n = some (x * pow3 n.toNat) := by
  have key : ∀ (d k i : Nat) (n : Int), n = d → d < k → i + d ≤ 30 → spec_l5Lift.l0 k (x * pow3 i) n = some (x * pow3 (i + d)) := by
    intro d
    induction d with
    | zero =>
      intro k i n e hk hi
      obtain ⟨k, rfl⟩ : ∃ m, k = m + 1 := ⟨k - 1, by omega⟩
      rw [spec_l5Lift.l0, if_neg (by omega)]; rfl
    | succ d ih =>
      intro k i n e hk hi
      obtain ⟨k, rfl⟩ : ∃ m, k = m + 1 := ⟨k - 1, by omega⟩
      have p1 := pow3_pos i
      have p2 : pow3 i ≤ pow3 30 := pow3_mono (by omega)
      rw [pow3_30] at p2
      have := mul_le (x := x) (y := pow3 i) (a := 10000) (b := 205891132094649) ⟨h0, h1⟩ ⟨by omega, p2⟩
      rw [spec_l5Lift.l0, if_pos (by omega), w64 (3 * _) (by omega) (by omega), w64 _ (by omega) (by omega), Int.mul_left_comm]
      have := ih k (i + 1) (n - 1) (by omega) (by omega) (by omega)
      rw [show i + 1 + d = i + (d + 1) from by omega] at this
      exact this
  unfold spec_l5Lift.f
  by_cases c : 0 ≤ n
  · have := key n.toNat k 0 n (by omega) (by omega) (by omega)
    simp only [pow3, Int.mul_one, Nat.zero_add] at this
    exact this
  · obtain ⟨k, rfl⟩ : ∃ m, k = m + 1 := ⟨k - 1, by omega⟩
    rw [spec_l5Lift.l0, if_neg (by omega), show n.toNat = 0 from by omega]; simp [pow3]
theorem spec_MakePower_f (k : Nat) (n : Int) (hk : 50 ≤ k) (h0 : 0 ≤ n) (hn : n ≤ 30) : spec_MakePower.f k n = some (pow3 n.toNat) := by
  have em : mx 0 (mn n 30) = n := by unfold mx mn; split <;> split <;> omega
  unfold spec_MakePower.f
  rw [em, spec_l5Lift_f k 1 n hk hn (by omega) (by omega), bsome, Int.one_mul]
theorem word_word (n : Int) (k : Nat) (h1 : 1 ≤ k) (h2 : k ≤ 30) : Word (word n k) := ⟨by rw [length_word]; exact h1, by rw [length_word]; exact h2, trits_word n k⟩
end FnThirdsParts
open FnThirdsParts
attribute [local congr] bind_left

theorem FnThirds : laws_FnThirds.Pure := by
  intro l0 _ hl hwf
  obtain ⟨K, hK⟩ : ∃ K, 100000000 ≤ K := ⟨_, Nat.le_refl _⟩
  refine ⟨K + 1, ?_⟩
  unfold laws_FnThirds.f
  by_cases h0 : (l0.length : Int) > 1048576
  · rw [if_pos h0]
  obtain ⟨v1, e1, b1⟩ := laws_at_f l0 1 (by omega) hwf (by omega) (by omega)
  obtain ⟨v2, e2, b2⟩ := laws_at_f l0 2 (by omega) hwf (by omega) (by omega)
  obtain ⟨v3, e3, b3⟩ := laws_at_f l0 3 (by omega) hwf (by omega) (by omega)
  obtain ⟨v4, e4, b4⟩ := laws_at_f l0 4 (by omega) hwf (by omega) (by omega)
  obtain ⟨v5, e5, b5⟩ := laws_at_f l0 5 (by omega) hwf (by omega) (by omega)
  have hm := mul_le (x := v1) (y := v2) (a := 255) (b := 255) (by omega) (by omega)
  have hm0 : 0 ≤ v1 * v2 := Int.mul_nonneg b1.1 b2.1
  have u0 := (tmod_range (n := v1 * v2) (m := 1000) (by omega)).1 hm0
  have k0 := (tmod_range (n := v5) (m := 12) (by omega)).1 b5.1
  rw [if_neg h0, e1, bsome, e2, bsome, e3, bsome, e4, bsome, e5, w64 (v1 * v2) (by omega) (by omega)]
  generalize Int.tmod (v1 * v2) 1000 = u at *
  rw [w64 (1 + u) (by omega) (by omega), if_neg (by omega), bsome, w64 (v3 * 257) (by omega) (by omega), w64 (v3 * 257 + v4) (by omega) (by omega)]
  generalize Int.tmod v5 12 = kk at *
  obtain ⟨d, hd⟩ : ∃ d, 1 + u = d := ⟨_, rfl⟩
  rw [hd]
  have m0 := (tmod_range (n := v3 * 257 + v4) (m := d) (by omega)).1 (by omega)
  generalize Int.tmod (v3 * 257 + v4) d = m at *
  rw [Int.tdiv_eq_ediv_of_nonneg (show 0 ≤ d by omega), w64 (d / 2) (by omega) (by omega), w64 (m - d / 2) (by omega) (by omega), w64 (1 + kk) (by omega) (by omega)]
  obtain ⟨n, hn⟩ : ∃ n, m - d / 2 = n := ⟨_, rfl⟩
  obtain ⟨k, hk⟩ : ∃ k, 1 + kk = k := ⟨_, rfl⟩
  rw [hn, hk, w64 (k + 3) (by omega) (by omega)]
  have an0 := abs3_nonneg n
  have an1 := abs3_le (d := n) (B := 1000) (by omega) (by omega)
  rw [impl_ThirdsOf_f _ _ _ _ (by omega) (by omega) (by omega), bsome, laws_abs_f n (by omega) (by omega), bsome, w64 (2 * abs3 n) (by omega) (by omega)]
  by_cases c : 2 * abs3 n ≥ d
  · rw [if_pos c]
    have : thirdsOf n d k = ([], false) := by unfold thirdsOf; rw [if_neg (by omega)]
    rw [this]; rfl
  · have t1 : thirdsOf n d k = (word (bquo (n * pow3 k.toNat) d) k.toNat, true) := by unfold thirdsOf; rw [if_pos ⟨by omega, by omega, by omega, by omega, by omega⟩]
    have t2 : thirdsOf n d (k + 3) = (word (bquo (n * pow3 (k + 3).toNat) d) (k + 3).toNat, true) := by unfold thirdsOf; rw [if_pos ⟨by omega, by omega, by omega, by omega, by omega⟩]
    have q1 := thirds_bd (n := n) (d := d) (k := k.toNat) (by omega) (by omega)
    have q2 := thirds_bd (n := n) (d := d) (k := (k + 3).toNat) (by omega) (by omega)
    have s1 := thirds_small (n := n) (d := d) (k := k.toNat) (by omega) (by omega) (by omega)
    have l1 : lim k.toNat ≤ lim 30 := lim_mono (by omega)
    have l2 : lim (k + 3).toNat ≤ lim 30 := lim_mono (by omega)
    rw [lim30] at l1 l2
    have g1 := bquo_brem (n := n * pow3 k.toNat) (d := d) (by omega)
    have g2 := bquo_brem (n := n * pow3 (k + 3).toNat) (d := d) (by omega)
    have r1 := brem_bd (n := n * pow3 k.toNat) (d := d) (by omega)
    have r2 := brem_bd (n := n * pow3 (k + 3).toNat) (d := d) (by omega)
    have ad : abs3 d = d := by unfold abs3; rw [if_neg (by omega)]
    rw [ad] at r1 r2
    rw [if_neg c, impl_ThirdsOf_f _ _ _ _ (by omega) (by omega) (by omega), bsome, t1, t2]
    have w1 := word_word (bquo (n * pow3 k.toNat) d) k.toNat (by omega) (by omega)
    have w2 := word_word (bquo (n * pow3 (k + 3).toNat) d) (k + 3).toNat (by omega) (by omega)
    have x1 := val_word _ _ q1.1 q1.2
    have x2 := val_word _ _ q2.1 q2.2
    have z1 := length_word (bquo (n * pow3 k.toNat) d) k.toNat
    have z2 := length_word (bquo (n * pow3 (k + 3).toNat) d) (k + 3).toNat
    have p27 : pow3 (k + 3).toNat = 27 * pow3 k.toNat := by
      rw [show (k + 3).toNat = k.toNat + 3 from by omega, pow3_add, show pow3 3 = 27 from rfl, Int.mul_comm]
    rw [p27, Int.mul_left_comm] at g2 r2 w2 x2 z2 q2
    rw [p27, Int.mul_left_comm]
    generalize hy : n * pow3 k.toNat = y at *
    generalize word (bquo y d) k.toNat = W1 at *
    generalize word (bquo (27 * y) d) (k + 3).toNat = W2 at *
    generalize bquo y d = a at *
    generalize bquo (27 * y) d = b at *
    generalize brem y d = r at *
    generalize brem (27 * y) d = s at *
    have keyd : (b - 27 * a) * d = 27 * r - s := by rw [Int.sub_mul, Int.mul_assoc]; omega
    have key : -14 ≤ b - 27 * a ∧ b - 27 * a ≤ 14 := by
      generalize b - 27 * a = f at *
      constructor
      · rcases Int.lt_or_le f (-14) with hlt | hle
        · exfalso
          have : 0 ≤ (-15 - f) * d := Int.mul_nonneg (by omega) (by omega)
          simp only [Int.sub_mul] at this
          omega
        · exact hle
      · rcases Int.lt_or_le 14 f with hlt | hle
        · exfalso
          have : 0 ≤ (f - 15) * d := Int.mul_nonneg (by omega) (by omega)
          simp only [Int.sub_mul] at this
          omega
        · exact hle
    rw [if_pos rfl, if_pos rfl, if_pos (by rw [z1]; omega), laws_FnThirds.j0, if_neg (by rw [z2]; simp; omega), spec_MakePower_f _ _ (by omega) (by omega) (by omega), bsome, impl_ValueOf_f _ W1 (by omega) (by omega), bsome, if_pos w1, x1, hy, w64 y (by omega) (by omega), w64 (a * d) (by omega) (by omega), w64 (y - a * d) (by omega) (by omega),
      laws_abs_f _ (by omega) (by omega), bsome]
    have a3 : abs3 (y - a * d) ≤ 1000 := abs3_le (by omega) (by omega)
    have a4 := abs3_nonneg (y - a * d)
    have a5 : 2 * abs3 (y - a * d) ≤ d := by unfold abs3; split <;> omega
    rw [w64 (2 * _) (by omega) (by omega), if_pos a5, impl_ValueOf_f _ W2 (by omega) (by omega), bsome, if_pos w2, bsome, x2, w64 (27 * a) (by omega) (by omega), w64 (b - 27 * a) (by omega) (by omega), laws_abs_f _ (by omega) (by omega), bsome]
    have a6 : abs3 (b - 27 * a) ≤ 14 := abs3_le key.1 key.2
    rw [decide_eq_true a6]

end Go.Proofs.Ytfhbdknmjbgghaa.Pure
