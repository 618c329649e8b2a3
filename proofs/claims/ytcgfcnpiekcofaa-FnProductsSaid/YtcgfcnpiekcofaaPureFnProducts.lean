/- For every text of draws: products are the same both ways, are the sum of their partials, keep the signs, and cut down to the nearest; no condition. -/
import Derived.Test.YtcgfcnpiekcofaaPd8
import Derived.Test.YtcgfcnpiekcofaaGlue
namespace Go.Proofs.Ytcgfcnpiekcofaa.Pure
open Go.RowKit Go.Proofs.Ytcgfcnpiekcofaa.Tern Go.Proofs.Ytcgfcnpiekcofaa.P Go.Proofs.YtcgfcnpiekcofaaW.PrintWords Go.Proofs.YtcgfcnpiekcofaaW.PrintLast
set_option linter.unusedVariables false
set_option linter.unusedSimpArgs false

namespace FnProductsParts
theorem impl_IsTrit_f (a : Int) : impl_IsTrit.f a = some (decide (Trit a)) := by
  unfold impl_IsTrit.f Trit
  split
  · rename_i h
    simp [show -1 ≤ a from h]
  · rename_i h
    have : ¬ (-1 ≤ a) := h
    simp [this]
theorem impl_trits_l0 (l : List Int) (hl : l.length ≤ 2000000) : ∀ (d k i : Nat), i + d = l.length → d < k →
    impl_trits.l0 k l (l.length : Int) (i : Int) = some (decide (Trits (l.drop i))) := by
  intro d
  induction d with
  | zero =>
    intro k i h hk
    obtain ⟨k, rfl⟩ : ∃ m, k = m + 1 := ⟨k - 1, by omega⟩
    simp only [impl_trits.l0]
    rw [if_neg (by omega), List.drop_eq_nil_of_le (by omega)]
    simp [Trits.nil]
  | succ d ih =>
    intro k i h hk
    obtain ⟨k, rfl⟩ : ∃ m, k = m + 1 := ⟨k - 1, by omega⟩
    simp only [impl_trits.l0]
    rw [if_pos (by omega), if_pos (by omega), if_pos (by omega), impl_IsTrit_f, drop_rd l i (by omega)]
    simp only [bsome, Trits.cons]
    by_cases ht : Trit (rd l (i : Int))
    · rw [if_pos (by simpa using ht), w64 _ (by omega) (by omega)]
      have := ih k (i + 1) (by omega) (by omega)
      rw [show ((i + 1 : Nat) : Int) = (i : Int) + 1 from by omega] at this
      rw [this]; simp [ht]
    · rw [if_neg (by simpa using ht)]; simp [ht]
theorem impl_trits_f (k : Nat) (l : List Int) (hk : 2000001 ≤ k) (hl : l.length ≤ 2000000) : impl_trits.f k l = some (decide (Trits l)) := by
  unfold impl_trits.f
  have := impl_trits_l0 l hl l.length k 0 (by omega) (by omega)
  simpa using this
theorem impl_IsWord_f (k : Nat) (l : List Int) (hk : 2000001 ≤ k) (hl : l.length ≤ 2000000) : impl_IsWord.f k l = some (decide (Word l)) := by
  unfold impl_IsWord.f Word
  rw [impl_trits_f k l hk hl]
  by_cases h1 : 1 ≤ l.length
  · rw [if_pos (by omega)]
    by_cases h2 : l.length ≤ 30
    · rw [if_pos (by omega)]; simp [h1, h2]
    · rw [if_neg (by omega)]; simp [h2]
  · rw [if_neg (by omega)]; simp [h1]
theorem impl_value_l0 (l : List Int) (hl : l.length ≤ 30) (hb : Digs l) : ∀ (n k : Nat) (x : Int), n ≤ l.length → n < k → x = (n : Int) - 1 →
    impl_value.l0 k l (val (l.drop n)) x = some (val l) := by
  intro n
  induction n with
  | zero =>
    intro k x h hk hx
    obtain ⟨k, rfl⟩ : ∃ m, k = m + 1 := ⟨k - 1, by omega⟩
    simp only [impl_value.l0]
    rw [if_neg (by omega), List.drop_zero]
  | succ n ih =>
    intro k x h hk hx
    obtain ⟨k, rfl⟩ : ∃ m, k = m + 1 := ⟨k - 1, by omega⟩
    obtain rfl : x = (n : Int) := by omega
    have b1 := val_drop_bd l hl hb (n + 1)
    have b2 := hb _ (rd_mem l n (by omega))
    simp only [impl_value.l0]
    rw [if_pos (by omega), if_pos (by omega), if_pos (by omega), w64 (3 * _) (by omega) (by omega), w64 _ (by omega) (by omega), w64 _ (by omega) (by omega)]
    have e : val (l.drop n) = 3 * val (l.drop (n + 1)) + rd l (n : Int) := by rw [drop_rd l n (by omega)]; simp only [val]; omega
    rw [← e]
    exact ih k _ (by omega) (by omega) rfl
theorem impl_value_f (k : Nat) (l : List Int) (hk : 31 ≤ k) (hl : l.length ≤ 30) (hb : Digs l) : impl_value.f k l = some (val l) := by
  unfold impl_value.f
  have := impl_value_l0 l hl hb l.length k (wrap64 ((l.length : Int) - 1)) (Nat.le_refl _) (by omega) (w64 _ (by omega) (by omega))
  rw [List.drop_length] at this
  exact this
theorem impl_ValueOf_f (k : Nat) (l : List Int) (hk : 2000001 ≤ k) (hl : l.length ≤ 2000000) : impl_ValueOf.f k l = some (if Word l then val l else 0) := by
  unfold impl_ValueOf.f
  rw [impl_IsWord_f k l hk hl]
  by_cases h : Word l
  · simp [h, impl_value_f k l (by omega) h.2.1 h.2.2.digs]
  · simp [h]
theorem impl_power_l0 (a : Int) (ha : a ≤ 30) : ∀ (d k i : Nat), (i : Int) + d = a → d < k → impl_power.l0 k (pow3 i) a (i : Int) = some (pow3 a.toNat) := by
  intro d
  induction d with
  | zero =>
    intro k i h hk
    obtain ⟨k, rfl⟩ : ∃ m, k = m + 1 := ⟨k - 1, by omega⟩
    simp only [impl_power.l0]
    rw [if_neg (by omega), show a.toNat = i from by omega]
  | succ d ih =>
    intro k i h hk
    obtain ⟨k, rfl⟩ : ∃ m, k = m + 1 := ⟨k - 1, by omega⟩
    have h1 := pow3_pos i
    have h2 : pow3 i ≤ pow3 30 := pow3_mono (by omega)
    rw [pow3_30] at h2
    simp only [impl_power.l0]
    rw [if_pos (by omega), w64 _ (by omega) (by omega), w64 _ (by omega) (by omega)]
    have := ih k (i + 1) (by omega) (by omega)
    simp only [pow3] at this
    rw [show pow3 i * 3 = 3 * pow3 i from by omega, show (i : Int) + 1 = ((i + 1 : Nat) : Int) from by omega]
    exact this
theorem impl_power_f (k : Nat) (a : Int) (hk : 31 ≤ k) (ha : a ≤ 30) : impl_power.f k a = some (pow3 a.toNat) := by
  unfold impl_power.f
  by_cases h : 0 ≤ a
  · exact impl_power_l0 a ha a.toNat k 0 (by omega) (by omega)
  · obtain ⟨k, rfl⟩ : ∃ m, k = m + 1 := ⟨k - 1, by omega⟩
    simp only [impl_power.l0]
    rw [if_neg (by omega), show a.toNat = 0 from by omega]; rfl
theorem impl_LimitOf_f (k : Nat) (a : Int) (hk : 31 ≤ k) : impl_LimitOf.f k a = some (if 1 ≤ a ∧ a ≤ 30 then lim a.toNat else 0) := by
  unfold impl_LimitOf.f
  by_cases h1 : a < 1
  · rw [if_pos h1, if_neg (by omega)]
  · rw [if_neg h1]
    by_cases h2 : a > 30
    · rw [if_pos h2, if_neg (by omega)]
    · rw [if_neg h2, impl_power_f k a hk (by omega), if_pos (by omega)]
      have h3 := pow3_lim a.toNat
      have h4 := lim_nonneg a.toNat
      have h5 : lim a.toNat ≤ lim 30 := lim_mono (by omega)
      rw [lim30] at h5
      simp only [bsome]
      rw [w64 (pow3 _ - 1) (by omega) (by omega), h3, show 2 * lim a.toNat + 1 - 1 = 2 * lim a.toNat from by omega, Int.mul_tdiv_cancel_left _ (by omega), w64 _ (by omega) (by omega)]
theorem impl_fits_f (k : Nat) (n a : Int) (hk : 31 ≤ k) (h1 : 1 ≤ a) (h2 : a ≤ 30) : impl_fits.f k n a = some (decide (-lim a.toNat ≤ n ∧ n ≤ lim a.toNat)) := by
  unfold impl_fits.f
  have h4 := lim_nonneg a.toNat
  have h5 : lim a.toNat ≤ lim 30 := lim_mono (by omega)
  rw [lim30] at h5
  rw [impl_LimitOf_f k a hk, if_pos ⟨h1, h2⟩]
  simp only [bsome]
  rw [w64 _ (by omega) (by omega)]
  by_cases h : n ≥ -lim a.toNat
  · rw [if_pos h]; simp [show -lim a.toNat ≤ n from h]
  · rw [if_neg h]
    have : ¬ -lim a.toNat ≤ n := h
    simp [this]
theorem impl_carried_tmod (n : Int) : ∃ c, impl_carried.f (Int.tmod n 3) = some (low3 n, c) := by
  unfold impl_carried.f low3
  rcases Int.le_total 0 n with h | h
  · rw [tmod3_nonneg n h]
    split
    · rw [w64 _ (by omega) (by omega)]; exact ⟨1, by congr 2; omega⟩
    · rw [if_neg (by omega)]; exact ⟨0, by congr 2; omega⟩
  · have e2 := tmod3_nonpos n h
    rw [e2]
    split
    · omega
    · split
      · rw [w64 _ (by omega) (by omega)]; exact ⟨-1, by congr 2; omega⟩
      · exact ⟨0, by congr 2; omega⟩
theorem tdiv_low3 (n : Int) : Int.tdiv (n - low3 n) 3 = rest3 n := by
  have := low3_rest3 n
  rw [show n - low3 n = 3 * rest3 n from by omega, Int.mul_tdiv_cancel_left _ (by omega)]
theorem rest3_bd (n B : Int) (hB : 0 ≤ B) (h0 : -B ≤ n) (h1 : n ≤ B) : -B ≤ rest3 n ∧ rest3 n ≤ B := by unfold rest3; omega
theorem impl_WordOf_l0 (a : Int) (ha : a ≤ 30) : ∀ (d k i : Nat) (n : Int) (acc : List Int), (i : Int) + d = a → d < k → acc.length = i → -1000000000000000000 ≤ n → n ≤ 1000000000000000000 →
    impl_WordOf.l0 k n acc a (i : Int) = some (acc ++ word n d, true) := by
  intro d
  induction d with
  | zero =>
    intro k i n acc h hk hl h0 h1
    obtain ⟨k, rfl⟩ : ∃ m, k = m + 1 := ⟨k - 1, by omega⟩
    simp only [impl_WordOf.l0]
    rw [if_neg (by omega)]; simp [word]
  | succ d ih =>
    intro k i n acc h hk hl h0 h1
    obtain ⟨k, rfl⟩ : ∃ m, k = m + 1 := ⟨k - 1, by omega⟩
    obtain ⟨c, hc⟩ := impl_carried_tmod n
    have ht := low3_trit n
    unfold Trit at ht
    have hu := rest3_bd n 1000000000000000000 (by omega) (by omega) h1
    simp only [impl_WordOf.l0]
    rw [if_pos (by omega), hc]
    simp only [bsome]
    rw [if_pos (by omega), w64 (n - low3 n) (by omega) (by omega), tdiv_low3, w64 (rest3 n) (by omega) (by omega), w64 _ (by omega) (by omega), show (i : Int) + 1 = ((i + 1 : Nat) : Int) from by omega,
      ih k (i + 1) (rest3 n) (acc ++ [low3 n]) (by omega) (by omega) (by simp [hl]) hu.1 hu.2]
    simp [word]
theorem impl_WordOf_f (k : Nat) (n a : Int) (hk : 40 ≤ k) (ha : -9223372036854775808 ≤ a) : impl_WordOf.f k n a = some (wordOf n a) := by
  obtain ⟨k, rfl⟩ : ∃ m, k = m + 1 := ⟨k - 1, by omega⟩
  unfold impl_WordOf.f wordOf
  by_cases h1 : a < 1
  · rw [if_pos h1, if_neg (by omega)]; simp only [impl_WordOf.j0]; rfl
  · rw [if_neg h1]
    by_cases h2 : a > 30
    · rw [if_pos h2, if_neg (by omega)]; simp only [impl_WordOf.j0]; rfl
    · rw [if_neg h2, impl_fits_f _ n a (by omega) (by omega) (by omega)]
      simp only [bsome, impl_WordOf.j0]
      have h5 : lim a.toNat ≤ lim 30 := lim_mono (by omega)
      rw [lim30] at h5
      by_cases h : -lim a.toNat ≤ n ∧ n ≤ lim a.toNat
      · rw [if_neg (by simpa using h), if_pos ⟨by omega, by omega, h⟩]
        have := impl_WordOf_l0 a (by omega) a.toNat k 0 n [] (by omega) (by omega) rfl (by omega) (by omega)
        simpa using this
      · rw [if_pos (by rw [decide_eq_false h]; rfl), if_neg (fun hh => h hh.2.2)]
theorem impl_two_f (k : Nat) (a b : List Int) (hk : 2000001 ≤ k) (ha : a.length ≤ 2000000) (hb : b.length ≤ 2000000) : impl_two.f k a b = some (decide (Word a ∧ Word b ∧ a.length + b.length ≤ 30)) := by
  unfold impl_two.f
  rw [impl_IsWord_f k a hk ha, impl_IsWord_f k b hk hb]
  simp only [bsome]
  by_cases h1 : Word a
  · by_cases h2 : Word b
    · simp only [h1, h2, decide_true, if_true, true_and]
      rw [w64 _ (by omega) (by omega)]
      congr 1
      by_cases h3 : a.length + b.length ≤ 30
      · simp only [h3, decide_true]; exact decide_eq_true (by omega)
      · simp only [h3, decide_false]; exact decide_eq_false (by omega)
    · simp [h1, h2]
  · simp [h1]
def mulOf (a b : List Int) : List Int × Bool := if Word a ∧ Word b ∧ a.length + b.length ≤ 30 then (word (val a * val b) (a.length + b.length), true) else ([], false)
theorem mul_bds {a b : List Int} (h : Word a ∧ Word b ∧ a.length + b.length ≤ 30) : (-lim (a.length + b.length) ≤ val a * val b ∧ val a * val b ≤ lim (a.length + b.length)) ∧ -102945566047324 ≤ val a * val b ∧ val a * val b ≤ 102945566047324 := by
  have h1 := mul_lim (val_bd a h.1.2.2) (val_bd b h.2.1.2.2)
  have h2 : lim (a.length + b.length) ≤ lim 30 := lim_mono h.2.2
  rw [lim30] at h2
  omega
theorem impl_MultiplyWords_f (k : Nat) (a b : List Int) (hk : 2000001 ≤ k) (ha : a.length ≤ 2000000) (hb : b.length ≤ 2000000) : impl_MultiplyWords.f k a b = some (mulOf a b) := by
  unfold impl_MultiplyWords.f mulOf
  rw [impl_two_f k a b hk ha hb]
  simp only [bsome]
  by_cases h : Word a ∧ Word b ∧ a.length + b.length ≤ 30
  · have hm := mul_bds h
    rw [if_pos (by simpa using h), if_pos h, impl_value_f k a (by omega) h.1.2.1 h.1.2.2.digs, impl_value_f k b (by omega) h.2.1.2.1 h.2.1.2.2.digs]
    simp only [bsome]
    rw [w64 (val a * val b) (by omega) (by omega), w64 _ (by omega) (by omega), impl_WordOf_f k _ _ (by omega) (by omega)]
    have e : ((a.length : Int) + (b.length : Int)).toNat = a.length + b.length := by omega
    have h1 := h.1.1
    rw [wordOf_yes (by omega) (by omega) (by rw [e]; exact hm.1.1) (by rw [e]; exact hm.1.2), e]
    rfl
  · rw [if_neg (by simpa using h), if_neg h]
theorem mx_abs (d : Int) (h : -9223372036854775807 ≤ d) (h1 : d ≤ 9223372036854775807) : mx d (wrap64 (-d)) = abs3 d := by
  rw [w64 _ (by omega) (by omega)]
  unfold mx abs3
  split
  · rw [if_pos (by omega)]
  · split <;> omega
theorem laws_abs_f (d : Int) (h : -9223372036854775807 ≤ d) (h1 : d ≤ 9223372036854775807) : laws_abs.f d = some (abs3 d) := by
  unfold laws_abs.f
  rw [mx_abs d h h1]
theorem abs3_le {d B : Int} (h : -B ≤ d) (h1 : d ≤ B) : abs3 d ≤ B := by unfold abs3; split <;> omega
theorem bits_and255 (x : Int) : 0 ≤ Go.bits .and .i64 x 255 ∧ Go.bits .and .i64 x 255 ≤ 255 := by
  have h : (BitVec.ofInt 64 x &&& BitVec.ofInt 64 255).toNat ≤ 255 := by
    rw [BitVec.toNat_and]
    exact Nat.le_trans Nat.and_le_right (by decide)
  have e : Go.bits .and .i64 x 255 = IntKind.i64.wrap ((BitVec.ofInt 64 x &&& BitVec.ofInt 64 255).toNat : Int) := rfl
  rw [e, IntKind.wrap_i64]
  omega
theorem spec_l01Byte_f (b : List Int) (i h : Int) (hb : b.length ≤ 2000000) (hi : 0 ≤ i) : ∃ r i' h', spec_l01Byte.f b i h = some (r, i', h') ∧ (0 ≤ r ∧ r ≤ 255) ∧ 0 ≤ i' := by
  unfold spec_l01Byte.f
  by_cases c : i < (b.length : Int)
  · rw [if_pos c, if_pos hi, w64 (i + 1) (by omega) (by omega)]
    exact ⟨_, _, _, rfl, bits_and255 _, by omega⟩
  · rw [if_neg c]
    exact ⟨_, _, _, rfl, bits_and255 _, hi⟩
theorem spec_l01Below_f (b : List Int) (i h n : Int) (hb : b.length ≤ 2000000) (hi : 0 ≤ i) (h1 : 1 ≤ n) (h2 : n ≤ 256) : ∃ r i' h', spec_l01Below.f b i h n = some (r, i', h') ∧ (0 ≤ r ∧ r < n) ∧ 0 ≤ i' := by
  obtain ⟨r, i', h', e, hr, hi'⟩ := spec_l01Byte_f b i h hb hi
  unfold spec_l01Below.f
  rw [if_neg (by omega), if_pos h2, e, bsome, if_neg (by omega)]
  refine ⟨_, _, _, rfl, ?_, hi'⟩
  show 0 ≤ Int.tmod r n ∧ Int.tmod r n < n
  exact (tmod_range (n := r) (by omega)).1 hr.1
theorem spec_l01New_f (k : Nat) (l : List Int) (hk : 2000002 ≤ k) (hl : l.length ≤ 2000000) : ∃ h, spec_l01New.f k l = some (l, 0, h) := by
  have key : ∀ (d k i : Nat) (h : Int), i + d = l.length → d < k → ∃ h', spec_l01New.l0 k l h (i : Int) = some (l, 0, h') := by
    intro d
    induction d with
    | zero =>
      intro k i h e hk
      obtain ⟨k, rfl⟩ : ∃ m, k = m + 1 := ⟨k - 1, by omega⟩
      rw [spec_l01New.l0, if_neg (by omega)]
      exact ⟨_, rfl⟩
    | succ d ih =>
      intro k i h e hk
      obtain ⟨k, rfl⟩ : ∃ m, k = m + 1 := ⟨k - 1, by omega⟩
      rw [spec_l01New.l0, if_pos (by omega)]
      by_cases c : (i : Int) < 4000
      · rw [if_pos c, if_pos (by omega), w64 ((i : Int) + 1) (by omega) (by omega), show (i : Int) + 1 = ((i + 1 : Nat) : Int) from by omega]
        exact ih k (i + 1) _ (by omega) (by omega)
      · rw [if_neg c]
        exact ⟨_, rfl⟩
  unfold spec_l01New.f
  exact key l.length k 0 _ (by omega) (by omega)
theorem spec_l2Draw_l1 (b : List Int) (i h : Int) : ∀ (d k j : Nat) (w : List Int), j + d = w.length → d < k → w.length ≤ 30 → Trits w → ∃ w', spec_l2Draw.l1 k w (w.length : Int) (j : Int) b i h = some (w', i, h) ∧ w'.length = w.length ∧ Trits w' := by
  intro d
  induction d with
  | zero =>
    intro k j w e hk hw ht
    obtain ⟨k, rfl⟩ : ∃ m, k = m + 1 := ⟨k - 1, by omega⟩
    rw [spec_l2Draw.l1, if_neg (by omega)]
    exact ⟨w, rfl, rfl, ht⟩
  | succ d ih =>
    intro k j w e hk hw ht
    obtain ⟨k, rfl⟩ : ∃ m, k = m + 1 := ⟨k - 1, by omega⟩
    rw [spec_l2Draw.l1, if_pos (by omega), if_pos (by omega), if_pos (by omega), w64 _ (by omega) (by omega), show (j : Int) + 1 = ((j + 1 : Nat) : Int) from by omega]
    obtain ⟨w', e', l', t'⟩ := ih k (j + 1) (w.set (j : Int).toNat 1) (by rw [List.length_set]; omega) (by omega) (by rw [List.length_set]; omega) (by
      intro a ha
      rcases List.mem_or_eq_of_mem_set ha with h1 | h1
      · exact ht a h1
      · rw [h1]; unfold Trit; omega)
    rw [List.length_set] at e' l'
    exact ⟨w', e', l', t'⟩
theorem spec_l2Draw_l2 (b : List Int) (i h : Int) : ∀ (d k j : Nat) (w : List Int), j + d = w.length → d < k → w.length ≤ 30 → Trits w → ∃ w', spec_l2Draw.l2 k w (w.length : Int) (j : Int) b i h = some (w', i, h) ∧ w'.length = w.length ∧ Trits w' := by
  intro d
  induction d with
  | zero =>
    intro k j w e hk hw ht
    obtain ⟨k, rfl⟩ : ∃ m, k = m + 1 := ⟨k - 1, by omega⟩
    rw [spec_l2Draw.l2, if_neg (by omega)]
    exact ⟨w, rfl, rfl, ht⟩
  | succ d ih =>
    intro k j w e hk hw ht
    obtain ⟨k, rfl⟩ : ∃ m, k = m + 1 := ⟨k - 1, by omega⟩
    rw [spec_l2Draw.l2, if_pos (by omega), if_pos (by omega), if_pos (by omega), w64 _ (by omega) (by omega), show (j : Int) + 1 = ((j + 1 : Nat) : Int) from by omega]
    obtain ⟨w', e', l', t'⟩ := ih k (j + 1) (w.set (j : Int).toNat (-1)) (by rw [List.length_set]; omega) (by omega) (by rw [List.length_set]; omega) (by
      intro a ha
      rcases List.mem_or_eq_of_mem_set ha with h1 | h1
      · exact ht a h1
      · rw [h1]; unfold Trit; omega)
    rw [List.length_set] at e' l'
    exact ⟨w', e', l', t'⟩
theorem spec_l2Draw_l3 (b : List Int) (i h : Int) : ∀ (d k j : Nat) (w : List Int), j + d = w.length → d < k → w.length ≤ 30 → Trits w → ∃ w', spec_l2Draw.l3 k w (w.length : Int) (j : Int) b i h = some (w', i, h) ∧ w'.length = w.length ∧ Trits w' := by
  intro d
  induction d with
  | zero =>
    intro k j w e hk hw ht
    obtain ⟨k, rfl⟩ : ∃ m, k = m + 1 := ⟨k - 1, by omega⟩
    rw [spec_l2Draw.l3, if_neg (by omega)]
    exact ⟨w, rfl, rfl, ht⟩
  | succ d ih =>
    intro k j w e hk hw ht
    obtain ⟨k, rfl⟩ : ∃ m, k = m + 1 := ⟨k - 1, by omega⟩
    rw [spec_l2Draw.l3, if_pos (by omega), if_pos (by omega), if_pos (by omega), w64 _ (by omega) (by omega), show (j : Int) + 1 = ((j + 1 : Nat) : Int) from by omega]
    obtain ⟨w', e', l', t'⟩ := ih k (j + 1) (w.set (j : Int).toNat 0) (by rw [List.length_set]; omega) (by omega) (by rw [List.length_set]; omega) (by
      intro a ha
      rcases List.mem_or_eq_of_mem_set ha with h1 | h1
      · exact ht a h1
      · rw [h1]; unfold Trit; omega)
    rw [List.length_set] at e' l'
    exact ⟨w', e', l', t'⟩
theorem spec_l2Draw_l0 (b : List Int) (hb : b.length ≤ 2000000) : ∀ (d k : Nat) (n i h : Int) (w : List Int), n = d → d + 100 < k → 0 ≤ i → w.length + d ≤ 30 → Trits w →
    ∃ w' i' h', spec_l2Draw.l0 k w n b i h = some (w', i', h') ∧ w'.length = w.length + d ∧ Trits w' ∧ 0 ≤ i' := by
  intro d
  induction d with
  | zero =>
    intro k n i h w hn hk hi hw ht
    obtain ⟨k, rfl⟩ : ∃ m, k = m + 1 := ⟨k - 1, by omega⟩
    obtain ⟨r, i', h', e, hr, hi'⟩ := spec_l01Below_f b i h 12 hb hi (by omega) (by omega)
    rw [spec_l2Draw.l0, if_neg (by omega), e, bsome]
    by_cases c0 : r = 0
    · rw [if_pos c0]
      obtain ⟨w', e', l', t'⟩ := spec_l2Draw_l1 b i' h' w.length k 0 w (by omega) (by omega) (by omega) ht
      exact ⟨w', _, _, e', by omega, t', hi'⟩
    rw [if_neg c0]
    by_cases c1 : r = 1
    · rw [if_pos c1]
      obtain ⟨w', e', l', t'⟩ := spec_l2Draw_l2 b i' h' w.length k 0 w (by omega) (by omega) (by omega) ht
      exact ⟨w', _, _, e', by omega, t', hi'⟩
    rw [if_neg c1]
    by_cases c2 : r = 2
    · rw [if_pos c2]
      obtain ⟨w', e', l', t'⟩ := spec_l2Draw_l3 b i' h' w.length k 0 w (by omega) (by omega) (by omega) ht
      exact ⟨w', _, _, e', by omega, t', hi'⟩
    rw [if_neg c2]
    exact ⟨w, _, _, rfl, by omega, ht, hi'⟩
  | succ d ih =>
    intro k n i h w hn hk hi hw ht
    obtain ⟨k, rfl⟩ : ∃ m, k = m + 1 := ⟨k - 1, by omega⟩
    obtain ⟨r, i', h', e, hr, hi'⟩ := spec_l01Below_f b i h 3 hb hi (by omega) (by omega)
    rw [spec_l2Draw.l0, if_pos (by omega), e, bsome, if_pos (by omega), w64 (r - 1) (by omega) (by omega), w64 (n - 1) (by omega) (by omega)]
    obtain ⟨w', i2, h2, e', l', t', hi2⟩ := ih k (n - 1) i' h' (w ++ [r - 1]) (by omega) (by omega) hi' (by simp; omega) (ht.append (by intro a ha; simp at ha; subst ha; unfold Trit; omega))
    exact ⟨w', i2, h2, e', by simp at l'; omega, t', hi2⟩
theorem spec_l2Draw_f (k : Nat) (b : List Int) (i h m : Int) (hk : 1000 ≤ k) (hb : b.length ≤ 2000000) (hi : 0 ≤ i) (h1 : 1 ≤ m) (h2 : m ≤ 30) : ∃ w i' h', spec_l2Draw.f k b i h m = some (w, i', h') ∧ Word w ∧ (w.length : Int) ≤ m ∧ 0 ≤ i' := by
  obtain ⟨r, i', h', e, hr, hi'⟩ := spec_l01Below_f b i h m hb hi h1 (by omega)
  unfold spec_l2Draw.f
  rw [e, bsome, w64 (1 + r) (by omega) (by omega)]
  obtain ⟨w', i2, h2', e', l', t', hi2⟩ := spec_l2Draw_l0 b hb (1 + r).toNat k (1 + r) i' h' [] (by omega) (by omega) hi' (by simp; omega) Trits.nil
  simp only [List.length_nil] at l'
  exact ⟨w', i2, h2', e', ⟨by omega, by omega, t'⟩, by omega, hi2⟩
theorem spec_MakeWord_f (k : Nat) (l : List Int) (m : Int) (hk : 2000002 ≤ k) (hl : l.length ≤ 2000000) (h1 : 1 ≤ m) (h2 : m ≤ 30) : ∃ w, spec_MakeWord.f k l m = some w ∧ Word w ∧ (w.length : Int) ≤ m := by
  obtain ⟨h, e⟩ := spec_l01New_f k l hk hl
  have em : mx 1 (mn m 30) = m := by unfold mx mn; split <;> split <;> omega
  unfold spec_MakeWord.f
  rw [e, bsome, em]
  obtain ⟨w, i', h', e', hw, hm, _⟩ := spec_l2Draw_f k l 0 h m (by omega) hl (by omega) h1 h2
  rw [e', bsome]
  exact ⟨w, rfl, hw, hm⟩
theorem laws_fresh_f (k : Nat) (l : List Int) (m : Int) (hk : 2000002 ≤ k) (hl : l.length ≤ 2000000) : ∃ c, laws_fresh.f k l m = some c ∧ c.length ≤ 1000 := by
  have key : ∀ (d k i : Nat) (acc : List Int), i + d = l.length → d < k → acc.length = i + 1 → i ≤ 600 → ∃ c, laws_fresh.l0 k l m acc (i : Int) = some c ∧ c.length ≤ 1000 := by
    intro d
    induction d with
    | zero =>
      intro k i acc e hk ha hi
      obtain ⟨k, rfl⟩ : ∃ m, k = m + 1 := ⟨k - 1, by omega⟩
      rw [laws_fresh.l0, if_neg (by omega)]
      exact ⟨acc, rfl, by omega⟩
    | succ d ih =>
      intro k i acc e hk ha hi
      obtain ⟨k, rfl⟩ : ∃ m, k = m + 1 := ⟨k - 1, by omega⟩
      rw [laws_fresh.l0, if_pos (by omega)]
      by_cases c : (i : Int) < 600
      · rw [if_pos c, if_pos (by omega), if_pos (by omega), w64 ((i : Int) + 1) (by omega) (by omega), show (i : Int) + 1 = ((i + 1 : Nat) : Int) from by omega]
        exact ih k (i + 1) _ (by omega) (by omega) (by simp [ha]) (by omega)
      · rw [if_neg c]
        exact ⟨acc, rfl, by omega⟩
  unfold laws_fresh.f
  exact key l.length k 0 _ (by omega) (by omega) (by simp) (by omega)
theorem laws_at_f (l : List Int) (i : Int) (hl : l.length ≤ 2000000) (hw : ∀ x ∈ l, (Lit.int .u8 x).wf = true) (h0 : 0 ≤ i) (h1 : i ≤ 1000) : ∃ v, laws_at.f l i = some v ∧ 0 ≤ v ∧ v ≤ 255 := by
  unfold laws_at.f
  by_cases c : i < (l.length : Int)
  · have := wf8 (hw _ (rd_mem l i.toNat (by omega)))
    rw [show ((i.toNat : Nat) : Int) = i from by omega] at this
    rw [if_pos c, if_pos h0, w64 _ (by omega) (by omega)]
    exact ⟨_, rfl, this⟩
  · rw [if_neg c, w64 (i * 37) (by omega) (by omega), w64 ((l.length : Int) * 11) (by omega) (by omega), w64 _ (by omega) (by omega)]
    have := (tmod_range (n := i * 37 + (l.length : Int) * 11) (m := 256) (by omega)).1 (by omega)
    exact ⟨_, rfl, by omega, by omega⟩
theorem spec_l5Lift_f (k : Nat) (x n : Int) (hk : 50 ≤ k) (hn : n ≤ 30) (h0 : -10000 ≤ x) (h1 : x ≤ 10000) : spec_l5Lift.f k x n = some (x * pow3 n.toNat) := by
  have key : ∀ (d k i : Nat) (n : Int), n = d → d < k → i + d ≤ 30 → spec_l5Lift.l0 k (x * pow3 i) n = some (x * pow3 (i + d)) := by
    intro d
    induction d with
    | zero =>
      intro k i n e hk hi
      obtain ⟨k, rfl⟩ : ∃ m, k = m + 1 := ⟨k - 1, by omega⟩
      rw [spec_l5Lift.l0, if_neg (by omega)]; rfl
    | succ d ih =>
      intro k i n e hk hi
      obtain ⟨k, rfl⟩ : ∃ m, k = m + 1 := ⟨k - 1, by omega⟩
      have p1 := pow3_pos i
      have p2 : pow3 i ≤ pow3 30 := pow3_mono (by omega)
      rw [pow3_30] at p2
      have := mul_le (x := x) (y := pow3 i) (a := 10000) (b := 205891132094649) ⟨h0, h1⟩ ⟨by omega, p2⟩
      rw [spec_l5Lift.l0, if_pos (by omega), w64 (3 * _) (by omega) (by omega), w64 _ (by omega) (by omega), Int.mul_left_comm]
      have := ih k (i + 1) (n - 1) (by omega) (by omega) (by omega)
      rw [show i + 1 + d = i + (d + 1) from by omega] at this
      exact this
  unfold spec_l5Lift.f
  by_cases c : 0 ≤ n
  · have := key n.toNat k 0 n (by omega) (by omega) (by omega)
    simp only [pow3, Int.mul_one, Nat.zero_add] at this
    exact this
  · obtain ⟨k, rfl⟩ : ∃ m, k = m + 1 := ⟨k - 1, by omega⟩
    rw [spec_l5Lift.l0, if_neg (by omega), show n.toNat = 0 from by omega]; simp [pow3]
theorem spec_MakePower_f (k : Nat) (n : Int) (hk : 50 ≤ k) (h0 : 0 ≤ n) (hn : n ≤ 30) : spec_MakePower.f k n = some (pow3 n.toNat) := by
  have em : mx 0 (mn n 30) = n := by unfold mx mn; split <;> split <;> omega
  unfold spec_MakePower.f
  rw [em, spec_l5Lift_f k 1 n hk hn (by omega) (by omega), bsome, Int.one_mul]
theorem word_word (n : Int) (k : Nat) (h1 : 1 ≤ k) (h2 : k ≤ 30) : Word (word n k) := ⟨by rw [length_word]; exact h1, by rw [length_word]; exact h2, trits_word n k⟩
def add3 (c : Int) : List Int → List Int → List Int × List Int × Int
  | x :: xs, y :: ys => (low3 (x + y + c) :: (add3 (rest3 (x + y + c)) xs ys).1, c :: (add3 (rest3 (x + y + c)) xs ys).2.1, (add3 (rest3 (x + y + c)) xs ys).2.2)
  | _, _ => ([], [], c)
theorem add3_len (a : List Int) : ∀ (b : List Int) (c : Int), a.length = b.length → (add3 c a b).1.length = a.length ∧ (add3 c a b).2.1.length = a.length := by
  induction a with
  | nil =>
    intro b c h
    cases b with
    | nil => exact ⟨rfl, rfl⟩
    | cons y ys => simp at h
  | cons x xs ih =>
    intro b c h
    cases b with
    | nil => simp at h
    | cons y ys =>
      have := ih ys (rest3 (x + y + c)) (by simpa using h)
      simp only [add3, List.length_cons, this.1, this.2, and_self]
theorem add3_val (a : List Int) : ∀ (b : List Int) (c : Int), a.length = b.length → Trits a → Trits b → Trit c → val (add3 c a b).1 + pow3 a.length * (add3 c a b).2.2 = val a + val b + c ∧ Trits (add3 c a b).1 ∧ Trit (add3 c a b).2.2 := by
  induction a with
  | nil =>
    intro b c h _ _ hc
    cases b with
    | nil => refine ⟨?_, Trits.nil, hc⟩; simp [add3, val, pow3]
    | cons y ys => simp at h
  | cons x xs ih =>
    intro b c h ha hb hc
    cases b with
    | nil => simp at h
    | cons y ys =>
      have hx := (Trits.cons.1 ha).1
      have hy := (Trits.cons.1 hb).1
      have h1 : Trit (rest3 (x + y + c)) := by unfold Trit rest3 at *; omega
      have := ih ys (rest3 (x + y + c)) (by simpa using h) (Trits.cons.1 ha).2 (Trits.cons.1 hb).2 h1
      refine ⟨?_, Trits.cons.2 ⟨low3_trit _, this.2.1⟩, this.2.2⟩
      have e := this.1
      have e2 := low3_rest3 (x + y + c)
      simp only [add3, val, List.length_cons, pow3]
      rw [Int.mul_assoc]
      generalize pow3 xs.length * (add3 (rest3 (x + y + c)) xs ys).2.2 = t at *
      omega
theorem impl_carried_f (n : Int) (h0 : -4 ≤ n) (h1 : n ≤ 4) : impl_carried.f n = some (low3 n, rest3 n) := by
  unfold impl_carried.f low3 rest3
  by_cases h : n > 1
  · rw [if_pos h, w64 _ (by omega) (by omega)]
    refine congrArg some (Prod.ext ?_ ?_) <;> simp only <;> omega
  · rw [if_neg h]
    by_cases h' : n < -1
    · rw [if_pos h', w64 _ (by omega) (by omega)]
      refine congrArg some (Prod.ext ?_ ?_) <;> simp only <;> omega
    · rw [if_neg h']
      refine congrArg some (Prod.ext ?_ ?_) <;> simp only <;> omega
theorem impl_FullAdd_f (k : Nat) (a b c : Int) (hk : 2000001 ≤ k) (ha : Trit a) (hb : Trit b) (hc : Trit c) : impl_FullAdd.f k a b c = some (low3 (a + b + c), rest3 (a + b + c)) := by
  unfold impl_FullAdd.f
  have ht : Trits [a, b, c] := Trits.cons.2 ⟨ha, Trits.cons.2 ⟨hb, Trits.cons.2 ⟨hc, Trits.nil⟩⟩⟩
  unfold Trit at ha hb hc
  rw [impl_trits_f k [a, b, c] hk (by simp), bsome, if_pos (by simpa using ht), w64 (a + b) (by omega) (by omega), w64 _ (by omega) (by omega), impl_carried_f _ (by omega) (by omega), bsome]
theorem impl_added_l0 (a b : List Int) (hl : a.length ≤ 30) (hb : a.length = b.length) (ta : Trits a) (tb : Trits b) : ∀ (d k i : Nat) (c : Int) (u v : List Int), i + d = a.length → d + 2000002 < k → u.length ≤ i → v.length ≤ i → Trit c →
    impl_added.l0 k a b c u v (a.length : Int) (i : Int) = some (u ++ (add3 c (a.drop i) (b.drop i)).1, v ++ (add3 c (a.drop i) (b.drop i)).2.1, (add3 c (a.drop i) (b.drop i)).2.2) := by
  intro d
  induction d with
  | zero =>
    intro k i c u v h hk hu hv hc
    obtain ⟨k, rfl⟩ : ∃ m, k = m + 1 := ⟨k - 1, by omega⟩
    rw [impl_added.l0, if_neg (by omega), List.drop_eq_nil_of_le (by omega), List.drop_eq_nil_of_le (by omega)]
    simp [add3]
  | succ d ih =>
    intro k i c u v h hk hu hv hc
    obtain ⟨k, rfl⟩ : ∃ m, k = m + 1 := ⟨k - 1, by omega⟩
    have hx := ta _ (rd_mem a i (by omega))
    have hy := tb _ (rd_mem b i (by omega))
    rw [impl_added.l0, if_pos (by omega), if_pos (by omega), if_pos (by omega), if_pos (by omega), impl_FullAdd_f k _ _ _ (by omega) hx hy hc, bsome, if_pos (by omega), if_pos (by omega), w64 _ (by omega) (by omega)]
    rw [show ((i : Int) + 1) = ((i + 1 : Nat) : Int) from by omega]
    rw [ih k (i + 1) _ _ _ (by omega) (by omega) (by simp; omega) (by simp; omega) (by unfold Trit rest3 at *; omega), drop_rd a i (by omega), drop_rd b i (by omega)]
    simp [add3]
theorem impl_added_f (k : Nat) (a b : List Int) (c : Int) (hk : 3000000 ≤ k) (hl : a.length ≤ 30) (hb : a.length = b.length) (ta : Trits a) (tb : Trits b) (hc : Trit c) : impl_added.f k a b c = some (add3 c a b) := by
  unfold impl_added.f
  have := impl_added_l0 a b hl hb ta tb a.length k 0 c [] [] (by omega) (by omega) (by simp) (by simp) hc
  simpa using this
theorem impl_sameLength_f2 (k : Nat) (a b : List Int) (hk : 2000001 ≤ k) (ha : a.length ≤ 2000000) (hb : b.length ≤ 2000000) : impl_sameLength.f k [a, b] = some (decide (Word a ∧ Word b ∧ a.length = b.length)) := by
  unfold impl_sameLength.f
  rw [if_pos (by simp)]
  simp only [same_g, List.getD_cons_zero]
  rw [impl_IsWord_f k a hk ha, impl_IsWord_f k b hk hb]
  simp only [bsome, sameB]
  by_cases h1 : Word a <;> by_cases h2 : Word b <;> by_cases h3 : a.length = b.length <;> simp [h1, h2, h3] <;> omega
def addOf (a b : List Int) (c : Int) : List Int × Int × Bool := if Word a ∧ Word b ∧ a.length = b.length ∧ Trit c then ((add3 c a b).1, (add3 c a b).2.2, true) else ([], 0, false)
theorem impl_AddWords_f (k : Nat) (a b : List Int) (c : Int) (hk : 3000000 ≤ k) (ha : a.length ≤ 2000000) (hb : b.length ≤ 2000000) : impl_AddWords.f k a b c = some (addOf a b c) := by
  unfold impl_AddWords.f addOf
  rw [impl_IsTrit_f, bsome]
  by_cases h1 : Trit c
  · rw [if_pos (by simpa using h1), impl_sameLength_f2 k a b (by omega) ha hb, bsome]
    by_cases h2 : Word a ∧ Word b ∧ a.length = b.length
    · rw [if_pos (by simpa using h2), impl_added_f k a b c hk h2.1.2.1 h2.2.2 h2.1.2.2 h2.2.1.2.2 h1, bsome, if_pos ⟨h2.1, h2.2.1, h2.2.2, h1⟩]
    · rw [if_neg (by simpa using h2), if_neg (fun h => h2 ⟨h.1, h.2.1, h.2.2.1⟩)]
  · rw [if_neg (by simpa using h1), if_neg (fun h => h1 h.2.2.2)]
def negOf (w : List Int) : List Int := if Word w then w.map (fun x => -x) else []
theorem impl_negated_l0 (l : List Int) (hl : l.length ≤ 30) (ht : Trits l) : ∀ (d k i : Nat) (u : List Int), i + d = l.length → d < k → u.length ≤ i →
    impl_negated.l0 k u l (l.length : Int) (i : Int) = some (u ++ (l.drop i).map (fun x => -x)) := by
  intro d
  induction d with
  | zero =>
    intro k i u h hk hu
    obtain ⟨k, rfl⟩ : ∃ m, k = m + 1 := ⟨k - 1, by omega⟩
    rw [impl_negated.l0, if_neg (by omega), List.drop_eq_nil_of_le (by omega)]
    simp
  | succ d ih =>
    intro k i u h hk hu
    obtain ⟨k, rfl⟩ : ∃ m, k = m + 1 := ⟨k - 1, by omega⟩
    have hx := ht _ (rd_mem l i (by omega))
    unfold Trit at hx
    rw [impl_negated.l0, if_pos (by omega), if_pos (by omega), if_pos (by omega), if_pos (by omega), w64 _ (by omega) (by omega), w64 _ (by omega) (by omega), show ((i : Int) + 1) = ((i + 1 : Nat) : Int) from by omega, ih k (i + 1) _ (by omega) (by omega) (by simp; omega), drop_rd l i (by omega)]
    simp
theorem impl_NegateWord_f (k : Nat) (l : List Int) (hk : 2000001 ≤ k) (hl : l.length ≤ 2000000) : impl_NegateWord.f k l = some (negOf l) := by
  unfold impl_NegateWord.f negOf impl_negated.f
  rw [impl_IsWord_f k l hk hl, bsome]
  by_cases h : Word l
  · have := impl_negated_l0 l h.2.1 h.2.2 l.length k 0 [] (by omega) (by omega) (by simp)
    rw [if_pos (by simpa using h), if_pos h]
    rw [show ((0 : Nat) : Int) = 0 from rfl] at this
    rw [this, bsome]; simp
  · rw [if_neg (by simpa using h), if_neg h]
theorem laws_ints_l0 (a b : List Int) (hl : a.length ≤ 2000000) (hb : a.length = b.length) : ∀ (d k i : Nat), i + d = a.length → d < k →
    laws_ints.l0 k a b (a.length : Int) (i : Int) = some (decide (a.drop i = b.drop i)) := by
  intro d
  induction d with
  | zero =>
    intro k i h hk
    obtain ⟨k, rfl⟩ : ∃ m, k = m + 1 := ⟨k - 1, by omega⟩
    simp only [laws_ints.l0]
    rw [if_neg (by omega), List.drop_eq_nil_of_le (by omega), List.drop_eq_nil_of_le (by omega)]; simp
  | succ d ih =>
    intro k i h hk
    obtain ⟨k, rfl⟩ : ∃ m, k = m + 1 := ⟨k - 1, by omega⟩
    simp only [laws_ints.l0]
    rw [if_pos (by omega), if_pos (by omega), if_pos (by omega), if_pos (by omega), drop_rd a i (by omega), drop_rd b i (by omega), w64 _ (by omega) (by omega)]
    by_cases c : rd a (i : Int) = rd b (i : Int)
    · rw [if_pos c, show (i : Int) + 1 = ((i + 1 : Nat) : Int) from by omega, ih k (i + 1) (by omega) (by omega)]
      simp [c]
    · rw [if_neg c]; simp [c]
theorem laws_ints_f (k : Nat) (a b : List Int) (hk : 2000001 ≤ k) (hl : a.length ≤ 2000000) : laws_ints.f k a b = some (decide (a = b)) := by
  unfold laws_ints.f
  by_cases h : a.length = b.length
  · rw [if_pos (by omega)]
    have := laws_ints_l0 a b hl h a.length k 0 (by omega) (by omega)
    simpa using this
  · rw [if_neg (by omega)]
    have : a ≠ b := fun e => h (by rw [e])
    simp [this]
theorem addOf_yes {a b : List Int} {c : Int} (ha : Word a) (hb : Word b) (hl : a.length = b.length) (hc : Trit c) : addOf a b c = ((add3 c a b).1, (add3 c a b).2.2, true) := if_pos ⟨ha, hb, hl, hc⟩
theorem val_neg (w : List Int) : val (w.map (fun x => -x)) = -val w := by
  induction w with
  | nil => rfl
  | cons x w ih => simp only [List.map_cons, val, ih]; omega
theorem neg_word {w : List Int} (h : Word w) : Word (w.map (fun x => -x)) := by
  refine ⟨by rw [List.length_map]; exact h.1, by rw [List.length_map]; exact h.2.1, fun x hx => ?_⟩
  obtain ⟨y, hy, rfl⟩ := List.mem_map.1 hx
  have := h.2.2 y hy
  unfold Trit at *; omega
def Good (n : Nat) (ls : List (List Int)) : Prop := ∀ x ∈ ls, Word x ∧ x.length = n
def sumV : List (List Int) → Int
  | [] => 0
  | x :: xs => val x + sumV xs
theorem sumV_append (a b : List (List Int)) : sumV (a ++ b) = sumV a + sumV b := by
  induction a with
  | nil => simp [sumV]
  | cons x xs ih => simp only [List.cons_append, sumV, ih]; omega
theorem Good_append {n : Nat} {a b : List (List Int)} (ha : Good n a) (hb : Good n b) : Good n (a ++ b) := fun x hx => by
  rcases List.mem_append.1 hx with h | h
  · exact ha x h
  · exact hb x h
theorem same_good (k n : Nat) (hk : 2000001 ≤ k) : ∀ ls : List (List Int), Good n ls → same_g k n ls = some true := by
  intro ls
  induction ls with
  | nil => intro _; rfl
  | cons x xs ih =>
    intro h
    have hx := h x (List.mem_cons_self ..)
    have := hx.1.2.1
    rw [same_g, impl_IsWord_f k x hk (by omega), bsome, if_pos (by simp [sameB, hx.1, hx.2])]
    exact ih (fun y hy => h y (List.mem_cons_of_mem _ hy))
theorem sameLength_good (k n : Nat) (ls : List (List Int)) (hk : 2000001 ≤ k) (h : Good n ls) (h1 : 0 < ls.length) : impl_sameLength.f k ls = some true := by
  unfold impl_sameLength.f
  rw [if_pos h1]
  cases ls with
  | nil => simp at h1
  | cons x xs =>
    have hx := (h x (List.mem_cons_self ..)).2
    rw [List.getD_cons_zero, hx]
    exact same_good k n hk _ h
def cs3 : List Int → List Int → List Int → List Int × List Int
  | x :: xs, y :: ys, z :: zs => (low3 (x + y + z) :: (cs3 xs ys zs).1, rest3 (x + y + z) :: (cs3 xs ys zs).2)
  | _, _, _ => ([], [])
theorem cs3_val (x : List Int) : ∀ (y z : List Int), x.length = y.length → x.length = z.length → Trits x → Trits y → Trits z → val (cs3 x y z).1 + 3 * val (cs3 x y z).2 = val x + val y + val z ∧ Trits (cs3 x y z).1 ∧ Trits (cs3 x y z).2 ∧ (cs3 x y z).1.length = x.length ∧ (cs3 x y z).2.length = x.length := by
  induction x with
  | nil =>
    intro y z h1 h2 _ _ _
    cases y with
    | cons _ _ => simp at h1
    | nil =>
      cases z with
      | cons _ _ => simp at h2
      | nil => exact ⟨by simp [cs3, val], Trits.nil, Trits.nil, rfl, rfl⟩
  | cons a x ih =>
    intro y z h1 h2 ha hb hc
    cases y with
    | nil => simp at h1
    | cons b y =>
      cases z with
      | nil => simp at h2
      | cons c z =>
        have := ih y z (by simpa using h1) (by simpa using h2) (Trits.cons.1 ha).2 (Trits.cons.1 hb).2 (Trits.cons.1 hc).2
        have t1 := (Trits.cons.1 ha).1
        have t2 := (Trits.cons.1 hb).1
        have t3 := (Trits.cons.1 hc).1
        have e := low3_rest3 (a + b + c)
        refine ⟨?_, Trits.cons.2 ⟨low3_trit _, this.2.1⟩, Trits.cons.2 ⟨?_, this.2.2.1⟩, by simp [cs3, this.2.2.2.1], by simp [cs3, this.2.2.2.2]⟩
        · simp only [cs3, val]; omega
        · unfold Trit rest3 at *; omega
theorem impl_CarrySave_l0 (x y z : List Int) (hl : x.length ≤ 30) (h1 : x.length = y.length) (h2 : x.length = z.length) (tx : Trits x) (ty : Trits y) (tz : Trits z) : ∀ (d k i : Nat) (u v : List Int), i + d = x.length → d + 2000002 < k → u.length ≤ i → v.length = i + 1 →
    impl_CarrySave.l0 k x y z u v (x.length : Int) (i : Int) = some (u ++ (cs3 (x.drop i) (y.drop i) (z.drop i)).1, (v ++ (cs3 (x.drop i) (y.drop i) (z.drop i)).2).take x.length, true) := by
  intro d
  induction d with
  | zero =>
    intro k i u v h hk hu hv
    obtain ⟨k, rfl⟩ : ∃ m, k = m + 1 := ⟨k - 1, by omega⟩
    rw [impl_CarrySave.l0, if_neg (by omega), if_pos (by omega), if_pos (by omega), List.drop_eq_nil_of_le (by omega), List.drop_eq_nil_of_le (by omega), List.drop_eq_nil_of_le (by omega)]
    simp [cs3]
  | succ d ih =>
    intro k i u v h hk hu hv
    obtain ⟨k, rfl⟩ : ∃ m, k = m + 1 := ⟨k - 1, by omega⟩
    have h3 := tx _ (rd_mem x i (by omega))
    have h4 := ty _ (rd_mem y i (by omega))
    have h5 := tz _ (rd_mem z i (by omega))
    rw [impl_CarrySave.l0, if_pos (by omega), if_pos (by omega), if_pos (by omega), if_pos (by omega), if_pos (by omega), impl_FullAdd_f k _ _ _ (by omega) h3 h4 h5, bsome, if_pos (by omega), if_pos (by omega), w64 _ (by omega) (by omega)]
    rw [show ((i : Int) + 1) = ((i + 1 : Nat) : Int) from by omega]
    rw [ih k (i + 1) _ _ (by omega) (by omega) (by simp; omega) (by simp; omega), drop_rd x i (by omega), drop_rd y i (by omega), drop_rd z i (by omega)]
    simp [cs3]
theorem cs_ok (k n : Nat) (x y z : List Int) (hk : 3000000 ≤ k) (hx : Word x ∧ x.length = n) (hy : Word y ∧ y.length = n) (hz : Word z ∧ z.length = n) : ∃ s c, impl_CarrySave.f k x y z = some (s, c, true) ∧ (Word s ∧ s.length = n) ∧ (Word c ∧ c.length = n) ∧ ∃ q, val s + val c = val x + val y + val z + pow3 n * q := by
  have g : Good n [x, y, z] := fun w hw => by
    simp only [List.mem_cons, List.not_mem_nil, or_false] at hw
    rcases hw with rfl | rfl | rfl
    · exact hx
    · exact hy
    · exact hz
  have l1 := hx.1.1
  have l2 := hx.1.2.1
  obtain ⟨cv, t1, t2, n1, n2⟩ := cs3_val x y z (by omega) (by omega) hx.1.2.2 hy.1.2.2 hz.1.2.2
  have e := impl_CarrySave_l0 x y z l2 (by omega) (by omega) hx.1.2.2 hy.1.2.2 hz.1.2.2 x.length k 0 [] [0] (by omega) (by omega) (by simp) (by simp)
  rw [show ((0 : Nat) : Int) = 0 from rfl] at e
  simp only [List.drop_zero, List.nil_append, List.singleton_append] at e
  have t3 : Trits (0 :: (cs3 x y z).2) := Trits.cons.2 ⟨by unfold Trit; omega, t2⟩
  have va := val_append ((0 :: (cs3 x y z).2).take n) ((0 :: (cs3 x y z).2).drop n)
  have ln : ((0 :: (cs3 x y z).2).take n).length = n := by rw [List.length_take, List.length_cons]; omega
  rw [List.take_append_drop, ln] at va
  refine ⟨(cs3 x y z).1, (0 :: (cs3 x y z).2).take n, ?_, ⟨⟨by omega, by omega, t1⟩, by omega⟩, ⟨⟨by omega, by omega, t3.take n⟩, ln⟩, -val ((0 :: (cs3 x y z).2).drop n), ?_⟩
  · unfold impl_CarrySave.f
    rw [sameLength_good k n _ (by omega) g (by simp), bsome, if_pos rfl, e, hx.2]
  · rw [Int.mul_neg]
    have : val (0 :: (cs3 x y z).2) = 0 + 3 * val (cs3 x y z).2 := rfl
    omega
theorem tree_l1 (n : Nat) : ∀ (d k : Nat) (x0 acc : List (List Int)) (lv : Int), x0.length ≤ d → d + 3000000 < k → Good n x0 → Good n acc → acc.length + x0.length ≤ 100 →
    ∃ k' acc', impl_TreeSum.l1 k x0 lv acc = impl_TreeSum.l0 k' acc' (wrap64 (lv + 1)) ∧ Good n acc' ∧ (∃ q, sumV acc' = sumV acc + sumV x0 + pow3 n * q) ∧ (acc'.length ≤ acc.length + x0.length) ∧ (3 ≤ x0.length → acc'.length < acc.length + x0.length ∧ 1 ≤ acc'.length) ∧ acc.length ≤ acc'.length ∧ k ≤ k' + d + 1 := by
  intro d
  induction d with
  | zero =>
    intro k x0 acc lv h hk g1 g2 hl
    obtain ⟨k, rfl⟩ : ∃ m, k = m + 1 := ⟨k - 1, by omega⟩
    refine ⟨k, acc ++ x0, ?_, Good_append g2 g1, ⟨0, by rw [sumV_append]; omega⟩, by simp, by omega, by simp, by omega⟩
    rw [impl_TreeSum.l1, if_neg (by omega), if_pos (by omega)]
  | succ d ih =>
    intro k x0 acc lv h hk g1 g2 hl
    obtain ⟨k, rfl⟩ : ∃ m, k = m + 1 := ⟨k - 1, by omega⟩
    by_cases c : 3 ≤ x0.length
    · obtain ⟨x, y, z, rest, rfl⟩ : ∃ x y z rest, x0 = x :: y :: z :: rest := by
        match x0, c with
        | x :: y :: z :: rest, _ => exact ⟨x, y, z, rest, rfl⟩
      simp only [List.length_cons] at h hl
      obtain ⟨s, c', e, hs, hc, q, hq⟩ := cs_ok k n x y z (by omega) (g1 x (by simp)) (g1 y (by simp)) (g1 z (by simp))
      have g3 : Good n [s, c'] := fun w hw => by
        simp only [List.mem_cons, List.not_mem_nil, or_false] at hw
        rcases hw with rfl | rfl
        · exact hs
        · exact hc
      obtain ⟨k', acc', e2, g4, ⟨q2, hq2⟩, l1, l2, l3, l4⟩ := ih k rest (acc ++ [s, c']) lv (by omega) (by omega) (fun w hw => g1 w (by simp [hw])) (Good_append g2 g3) (by simp; omega)
      refine ⟨k', acc', ?_, g4, ⟨q + q2, ?_⟩, ?_, ?_, ?_, by omega⟩
      · have r0 : rd_L2 (x :: y :: z :: rest) 0 = x := rfl
        have r1 : rd_L2 (x :: y :: z :: rest) 1 = y := rfl
        have r2 : rd_L2 (x :: y :: z :: rest) 2 = z := rfl
        rw [impl_TreeSum.l1, if_pos (by simp only [List.length_cons]; omega), if_pos (by simp only [List.length_cons]; omega), if_pos (by simp only [List.length_cons]; omega), if_pos (by simp only [List.length_cons]; omega), r0, r1, r2, e, bsome, bsome, if_pos (by simp only [List.length_cons, List.length_nil]; omega), if_pos (by simp only [List.length_cons]; omega)]
        exact e2
      · rw [hq2, sumV_append]
        simp only [sumV]
        rw [Int.mul_add]
        omega
      · simp only [List.length_append, List.length_cons, List.length_nil] at *; omega
      · intro _; simp only [List.length_append, List.length_cons, List.length_nil] at *; omega
      · simp only [List.length_append, List.length_cons, List.length_nil] at *; omega
    · refine ⟨k, acc ++ x0, ?_, Good_append g2 g1, ⟨0, by rw [sumV_append]; omega⟩, by simp, by omega, by simp, by omega⟩
      rw [impl_TreeSum.l1, if_neg (by omega), if_pos (by omega)]
theorem tree_l0 (n : Nat) : ∀ (d k : Nat) (x0 : List (List Int)) (lv : Int), x0.length ≤ d → 1 ≤ x0.length → x0.length ≤ 100 → 200 * d + 3000010 < k → Good n x0 →
    ∃ w lv', impl_TreeSum.l0 k x0 lv = some (w, lv', true) ∧ (Word w ∧ w.length = n) ∧ ∃ q, val w = sumV x0 + pow3 n * q := by
  intro d
  induction d with
  | zero => intro k x0 lv h h1; omega
  | succ d ih =>
    intro k x0 lv h h1 h2 hk g
    obtain ⟨k, rfl⟩ : ∃ m, k = m + 1 := ⟨k - 1, by omega⟩
    by_cases c : 3 ≤ x0.length
    · obtain ⟨k', acc', e, g4, ⟨q, hq⟩, l1, l2, l3, l4⟩ := tree_l1 n x0.length k x0 [] lv (Nat.le_refl _) (by omega) g (fun w hw => by simp at hw) (by simp; omega)
      have l2 := l2 c
      simp only [List.length_nil] at l1 l2 l3
      obtain ⟨w, lv', e2, hw, q2, hq2⟩ := ih k' acc' (wrap64 (lv + 1)) (by omega) (by omega) (by omega) (by omega) g4
      refine ⟨w, lv', ?_, hw, q + q2, ?_⟩
      · rw [impl_TreeSum.l0, if_pos (by omega), e, e2]
      · rw [hq2, hq, Int.mul_add]
        simp only [sumV]
        omega
    · match x0, c, h1, g with
      | [x], _, _, g =>
        have gx := g x (by simp)
        have r0 : rd_L2 [x] 0 = x := rfl
        have := gx.1.2.1
        refine ⟨x, lv, ?_, gx, 0, ?_⟩
        · rw [impl_TreeSum.l0, if_neg (by simp), if_pos (by simp), if_pos (by simp), r0]
          unfold slices_Clone_int_int.f
          rw [if_pos (by omega), bsome]
        · simp [sumV]
      | [x, y], _, _, g =>
        have gx := g x (by simp)
        have gy := g y (by simp)
        have r0 : rd_L2 [x, y] 0 = x := rfl
        have r1 : rd_L2 [x, y] 1 = y := rfl
        have lx := gx.1.1
        have lx2 := gx.1.2.1
        have l2 := gx.2
        have l3 := gy.2
        obtain ⟨v1, v2, v3⟩ := add3_val x y 0 (by omega) gx.1.2.2 gy.1.2.2 (by unfold Trit; omega)
        have v4 := (add3_len x y 0 (by omega)).1
        refine ⟨(add3 0 x y).1, lv, ?_, ⟨⟨by omega, by omega, v2⟩, by omega⟩, -(add3 0 x y).2.2, ?_⟩
        · rw [impl_TreeSum.l0, if_neg (by simp), if_neg (by simp), if_pos (by simp), if_pos (by simp), r0, r1, impl_AddWords_f k x y 0 (by omega) (by omega) (by omega), addOf_yes gx.1 gy.1 (by omega) (by unfold Trit; omega), bsome]
        · rw [Int.mul_neg]
          simp only [sumV]
          rw [l2] at v1
          omega
      | x :: y :: z :: r, c, _, _ => exact absurd (by simp only [List.length_cons]; omega) c
theorem impl_TreeSum_f (n k : Nat) (ls : List (List Int)) (h1 : 1 ≤ ls.length) (h2 : ls.length ≤ 40) (hk : 4000000 ≤ k) (g : Good n ls) : ∃ w lv', impl_TreeSum.f k ls = some (w, lv', true) ∧ (Word w ∧ w.length = n) ∧ ∃ q, val w = sumV ls + pow3 n * q := by
  obtain ⟨k, rfl⟩ : ∃ m, k = m + 1 := ⟨k - 1, by omega⟩
  obtain ⟨w, lv', e, hw⟩ := tree_l0 n ls.length k ls 0 (Nat.le_refl _) h1 (by omega) (by omega) g
  refine ⟨w, lv', ?_, hw⟩
  unfold impl_TreeSum.f
  rw [if_neg (by omega), sameLength_good _ n ls (by omega) g (by omega), bsome, impl_TreeSum.j0, if_neg (by simp), e]
theorem trit_mul {x y : Int} (hx : Trit x) (hy : Trit y) : Trit (x * y) := by
  unfold Trit at hx
  have : x = -1 ∨ x = 0 ∨ x = 1 := by omega
  unfold Trit at hy
  rcases this with rfl | rfl | rfl <;> unfold Trit <;> omega
theorem val_zeros (n : Nat) : val (List.replicate n 0) = 0 := by
  induction n with
  | zero => rfl
  | succ n ih => rw [List.replicate_succ]; simp [val, ih]
theorem val_scale (w : List Int) (c : Int) : val (w.map (fun x => x * c)) = val w * c := by
  induction w with
  | nil => simp [val]
  | cons x w ih => simp only [List.map_cons, val, ih]; rw [Int.add_mul, Int.mul_assoc]
theorem part_l1 (a b : List Int) (acc : List (List Int)) (j e : Nat) (bj : Int) (hl : a.length ≤ 30) (hj : j ≤ 30) (ta : Trits a) (tb : Trit bj) (hacc : acc.length ≤ 100) : ∀ (d k i : Nat) (pre : List Int), i + d = a.length → d < k → pre.length = j + i →
    impl_PartialsOf.l1 k a b acc (j : Int) bj (pre ++ List.replicate (d + e) 0) b (b.length : Int) (j : Int) a (a.length : Int) (i : Int) = impl_PartialsOf.l0 (k - d - 1) a b (acc ++ [pre ++ ((a.drop i).map (fun x => x * bj) ++ List.replicate e 0)]) b (b.length : Int) (wrap64 ((j : Int) + 1)) := by
  intro d
  induction d with
  | zero =>
    intro k i pre h hk hp
    obtain ⟨k, rfl⟩ : ∃ m, k = m + 1 := ⟨k - 1, by omega⟩
    rw [impl_PartialsOf.l1, if_neg (by omega), if_pos (by omega), List.drop_eq_nil_of_le (by omega)]
    simp
  | succ d ih =>
    intro k i pre h hk hp
    obtain ⟨k, rfl⟩ : ∃ m, k = m + 1 := ⟨k - 1, by omega⟩
    have hx := ta _ (rd_mem a i (by omega))
    have hm := trit_mul hx tb
    unfold Trit at hm
    have ll : (pre ++ List.replicate (d + 1 + e) (0 : Int)).length = j + i + (d + 1 + e) := by rw [List.length_append, List.length_replicate, hp]
    rw [impl_PartialsOf.l1, if_pos (by omega), if_pos (by omega), if_pos (by omega), w64 ((j : Int) + i) (by omega) (by omega), if_pos (by omega), if_pos (by omega), w64 (rd a (i : Int) * bj) (by omega) (by omega), w64 ((i : Int) + 1) (by omega) (by omega)]
    rw [show ((i : Int) + 1) = ((i + 1 : Nat) : Int) from by omega, show ((j : Int) + (i : Int)).toNat = pre.length from by omega, show d + 1 + e = (d + e) + 1 from by omega, List.replicate_succ, set_append_len]
    have := ih k (i + 1) (pre ++ [rd a (i : Int) * bj]) (by omega) (by omega) (by simp; omega)
    rw [List.append_assoc, List.singleton_append] at this
    rw [this, drop_rd a i (by omega), show k + 1 - (d + 1) - 1 = k - d - 1 from by omega]
    simp
theorem part_l0 (a b : List Int) (ha : Word a) (hb : Word b) (hl : a.length + b.length ≤ 30) : ∀ (d k j : Nat) (acc : List (List Int)), j + d = b.length → 100 * d + 100 < k → acc.length ≤ j →
    ∃ rows, impl_PartialsOf.l0 k a b acc b (b.length : Int) (j : Int) = some (acc ++ rows, true) ∧ rows.length = d ∧ Good (a.length + b.length) rows ∧ sumV rows = pow3 j * (val a * val (b.drop j)) := by
  intro d
  induction d with
  | zero =>
    intro k j acc h hk hacc
    obtain ⟨k, rfl⟩ : ∃ m, k = m + 1 := ⟨k - 1, by omega⟩
    refine ⟨[], ?_, rfl, fun x hx => by simp at hx, ?_⟩
    · rw [impl_PartialsOf.l0, if_neg (by omega)]; simp
    · rw [List.drop_eq_nil_of_le (by omega)]; simp [sumV, val]
  | succ d ih =>
    intro k j acc h hk hacc
    obtain ⟨k, rfl⟩ : ∃ m, k = m + 1 := ⟨k - 1, by omega⟩
    have hy := hb.2.2 _ (rd_mem b j (by omega))
    have a1 := ha.1
    have p := part_l1 a b acc j (b.length - j) (rd b (j : Int)) (by omega) (by omega) ha.2.2 hy (by omega) a.length k 0 (List.replicate j 0) (by omega) (by omega) (by simp)
    have er : List.replicate j (0 : Int) ++ List.replicate (a.length + (b.length - j)) 0 = List.replicate (a.length + b.length) 0 := by
      rw [List.replicate_append_replicate]; congr 1; omega
    rw [er, show ((0 : Nat) : Int) = 0 from rfl, List.drop_zero, w64 ((j : Int) + 1) (by omega) (by omega), show ((j : Int) + 1) = ((j + 1 : Nat) : Int) from by omega] at p
    obtain ⟨rows, e, hr, hg, hs⟩ := ih (k - a.length - 1) (j + 1) (acc ++ [List.replicate j 0 ++ (a.map (fun x => x * rd b (j : Int)) ++ List.replicate (b.length - j) 0)]) (by omega) (by omega) (by simp; omega)
    refine ⟨(List.replicate j 0 ++ (a.map (fun x => x * rd b (j : Int)) ++ List.replicate (b.length - j) 0)) :: rows, ?_, by simp [hr], ?_, ?_⟩
    · rw [impl_PartialsOf.l0, if_pos (by omega), if_pos (by omega), if_pos (by omega), w64 ((a.length : Int) + b.length) (by omega) (by omega), if_pos (by omega), if_pos (by omega), show ((a.length : Int) + (b.length : Int)).toNat = a.length + b.length from by omega, p, e]
      simp
    · intro x hx
      rcases List.mem_cons.1 hx with rfl | hx
      · have lx : (List.replicate j (0 : Int) ++ (a.map (fun x => x * rd b (j : Int)) ++ List.replicate (b.length - j) 0)).length = a.length + b.length := by
          rw [List.length_append, List.length_append, List.length_map, List.length_replicate, List.length_replicate]; omega
        refine ⟨⟨by omega, by omega, ?_⟩, lx⟩
        have z : ∀ m : Nat, Trits (List.replicate m (0 : Int)) := fun m x hx => by rw [List.eq_of_mem_replicate hx]; unfold Trit; omega
        refine (z j).append (Trits.append (fun x hx => ?_) (z _))
        obtain ⟨y, hy', rfl⟩ := List.mem_map.1 hx
        exact trit_mul (ha.2.2 y hy') hy
      · exact hg x hx
    · rw [sumV, hs, val_append, val_append, val_zeros, val_zeros, val_scale, List.length_replicate, drop_rd b j (by omega)]
      simp only [val, pow3]
      generalize rd b (j : Int) = y
      generalize val (b.drop (j + 1)) = D
      generalize val a = v
      rw [Int.mul_zero, Int.add_zero, Int.zero_add, Int.mul_add, Int.mul_add]
      have : 3 * pow3 j * (v * D) = pow3 j * (v * (3 * D)) := by
        rw [Int.mul_comm 3 (pow3 j), Int.mul_assoc, Int.mul_left_comm 3 v D]
      omega
theorem impl_PartialsOf_f (k : Nat) (a b : List Int) (hk : 3000000 ≤ k) (ha : Word a) (hb : Word b) (hl : a.length + b.length ≤ 30) : ∃ rows, impl_PartialsOf.f k a b = some (rows, true) ∧ rows.length = b.length ∧ Good (a.length + b.length) rows ∧ sumV rows = val a * val b := by
  obtain ⟨rows, e, hr, hg, hs⟩ := part_l0 a b ha hb hl b.length k 0 [] (by omega) (by have := hb.2.1; omega) (by simp)
  refine ⟨rows, ?_, hr, hg, by rw [hs]; simp [pow3]⟩
  unfold impl_PartialsOf.f
  rw [impl_two_f k a b (by omega) (by omega) (by omega), bsome, if_pos (by simp [ha, hb, hl])]
  exact e
def sg (x : Int) : Int := if x < 0 then -1 else if 0 < x then 1 else 0
theorem impl_highest_l0 (l : List Int) (hl : l.length ≤ 30) (ht : Trits l) : ∀ (i k : Nat) (x : Int), i ≤ l.length → i < k → x = (i : Int) - 1 → impl_highest.l0 k l x = some (sg (val (l.take i))) := by
  intro i
  induction i with
  | zero =>
    intro k x h hk hx
    obtain ⟨k, rfl⟩ : ∃ m, k = m + 1 := ⟨k - 1, by omega⟩
    rw [impl_highest.l0, if_neg (by omega)]
    rfl
  | succ i ih =>
    intro k x h hk hx
    obtain ⟨k, rfl⟩ : ∃ m, k = m + 1 := ⟨k - 1, by omega⟩
    obtain rfl : x = (i : Int) := by omega
    have hy := ht _ (rd_mem l i (by omega))
    have lt : (l.take i).length = i := by rw [List.length_take]; omega
    have bd := val_bd (l.take i) (ht.take i)
    have p := pow3_lim i
    have va : val (l.take (i + 1)) = val (l.take i) + pow3 i * rd l (i : Int) := by
      rw [take_rd l i (by omega), val_append, lt]
      simp [val]
    rw [lt] at bd
    have ln := lim_nonneg i
    rw [impl_highest.l0, if_pos (by omega), if_pos (by omega), if_pos (by omega), va]
    generalize rd l (i : Int) = y at *
    unfold Trit at hy
    have : y = -1 ∨ y = 0 ∨ y = 1 := by omega
    rcases this with rfl | rfl | rfl
    · rw [if_neg (by omega)]
      unfold sg
      rw [if_pos (by omega)]
    · rw [if_pos rfl, Int.mul_zero, Int.add_zero]
      exact ih k _ (by omega) (by omega) (by rw [w64 _ (by omega) (by omega)])
    · rw [if_neg (by omega)]
      unfold sg
      rw [if_neg (by omega), if_pos (by omega)]
theorem impl_SignWord_f (k : Nat) (w : List Int) (hk : 3000000 ≤ k) (h : Word w) : impl_SignWord.f k w = some (sg (val w)) := by
  unfold impl_SignWord.f impl_highest.f
  have l2 := h.2.1
  have := impl_highest_l0 w h.2.1 h.2.2 w.length k ((w.length : Int) - 1) (by omega) (by omega) rfl
  rw [List.take_length] at this
  rw [impl_IsWord_f k w (by omega) (by omega), bsome, if_pos (by simpa using h), w64 _ (by omega) (by omega), this, bsome]
theorem sg_mul (a b : Int) : sg (a * b) = wrap64 (sg a * sg b) := by
  have t : ∀ x : Int, 0 < x → sg x = 1 := fun x h => by unfold sg; rw [if_neg (by omega), if_pos h]
  have f : ∀ x : Int, x < 0 → sg x = -1 := fun x h => by unfold sg; rw [if_pos h]
  have z : sg 0 = 0 := rfl
  rcases Int.lt_trichotomy a 0 with h1 | rfl | h1
  · rcases Int.lt_trichotomy b 0 with h2 | rfl | h2
    · rw [t _ (Int.mul_pos_of_neg_of_neg h1 h2), f a h1, f b h2]; exact (w64 _ (by omega) (by omega)).symm
    · rw [Int.mul_zero, z, Int.mul_zero]; exact (w64 _ (by omega) (by omega)).symm
    · rw [f _ (Int.mul_neg_of_neg_of_pos h1 h2), f a h1, t b h2]; exact (w64 _ (by omega) (by omega)).symm
  · rw [Int.zero_mul, z, Int.zero_mul]; exact (w64 _ (by omega) (by omega)).symm
  · rcases Int.lt_trichotomy b 0 with h2 | rfl | h2
    · rw [f _ (Int.mul_neg_of_pos_of_neg h1 h2), t a h1, f b h2]; exact (w64 _ (by omega) (by omega)).symm
    · rw [Int.mul_zero, z, Int.mul_zero]; exact (w64 _ (by omega) (by omega)).symm
    · rw [t _ (Int.mul_pos h1 h2), t a h1, t b h2]; exact (w64 _ (by omega) (by omega)).symm
theorem impl_CutProduct_f (k : Nat) (a b : List Int) (i : Int) (hk : 3000000 ≤ k) (ha : a.length ≤ 30) (hb : b.length ≤ 30) (P : List Int) (e : mulOf a b = (P, true)) (l : P.length ≤ 30) (h0 : 0 ≤ i) (h1 : i < (P.length : Int)) : impl_CutProduct.f k a b i = some (P.drop i.toNat, true) := by
  unfold impl_CutProduct.f
  rw [impl_MultiplyWords_f k a b (by omega) (by omega) (by omega), e, bsome, if_pos rfl, if_neg (by omega), w64 _ (by simp only; omega) (by simp only; omega), if_neg (by simp only; omega), if_pos h0, if_pos (by simp only; omega)]
theorem cut_val (P : List Int) (h : Word P) (i : Nat) (hi : i < P.length) : val P = val (P.take i) + pow3 i * val (P.drop i) ∧ (-lim i ≤ val (P.take i) ∧ val (P.take i) ≤ lim i) := by
  have lt : (P.take i).length = i := by rw [List.length_take]; omega
  have bd := val_bd (P.take i) (h.2.2.take i)
  have va := val_append (P.take i) (P.drop i)
  rw [List.take_append_drop, lt] at va
  rw [lt] at bd
  exact ⟨va, bd⟩
theorem prodEnd (k : Nat) (l0 a b P : List Int) (rows : List (List Int)) (hk : 5000000 ≤ k) (hl : l0.length ≤ 2000000) (hwf : ∀ x ∈ l0, (Lit.int .u8 x).wf = true) (ha : Word a) (hb : Word b) (hab : a.length + b.length ≤ 30) (e1 : mulOf a b = (P, true)) (hP : Word P) (lP : P.length = a.length + b.length) (vP : val P = val a * val b) (hr : rows.length = b.length) (hg : Good (a.length + b.length) rows) (hs : sumV rows = val a * val b) :
    laws_FnProducts.j0 (k + 1) l0 a b P rows false = some true := by
  have a1 := ha.1
  have b1 := hb.1
  obtain ⟨w, lv, et, hw, q, hq⟩ := impl_TreeSum_f (a.length + b.length) k rows (by omega) (by omega) (by omega) hg
  have bP := val_bd P hP.2.2
  rw [lP] at bP
  have wP : w = P := by
    have bw := val_bd w hw.1.2.2
    rw [hw.2] at bw
    have pl := pow3_lim (a.length + b.length)
    have ln := lim_nonneg (a.length + b.length)
    have q0 : q = 0 := by
      rcases Int.lt_trichotomy q 0 with h | h | h
      · have := Int.mul_le_mul_of_nonneg_left (show q ≤ -1 by omega) (show 0 ≤ pow3 (a.length + b.length) by omega)
        omega
      · exact h
      · have := Int.mul_le_mul_of_nonneg_left (show 1 ≤ q by omega) (show 0 ≤ pow3 (a.length + b.length) by omega)
        omega
    exact val_inj hw.1.2.2 hP.2.2 (by omega) (by rw [hq, q0, hs, vP]; simp)
  subst wP
  obtain ⟨t, et2, ht⟩ := laws_at_f l0 1 hl hwf (by omega) (by omega)
  have mt := (tmod_range (n := t) (m := (w.length : Int)) (by omega)).1 ht.1
  have na : negOf a = a.map (fun x => -x) := if_pos ha
  have nP : negOf w = w.map (fun x => -x) := if_pos hP
  have hna := neg_word ha
  have hnP := neg_word hP
  have la : (a.map (fun x => -x)).length = a.length := List.length_map _
  have lnP : (w.map (fun x => -x)).length = w.length := List.length_map _
  have m2 : Word (a.map (fun x => -x)) ∧ Word b ∧ (a.map (fun x => -x)).length + b.length ≤ 30 := ⟨hna, hb, by omega⟩
  have bd2 := mul_bds m2
  have e2 : mulOf (a.map (fun x => -x)) b = (word (val (a.map (fun x => -x)) * val b) ((a.map (fun x => -x)).length + b.length), true) := if_pos m2
  have v2 := val_word _ _ bd2.1.1 bd2.1.2
  have eq2 : word (val (a.map (fun x => -x)) * val b) ((a.map (fun x => -x)).length + b.length) = w.map (fun x => -x) :=
    val_inj (trits_word _ _) hnP.2.2 (by rw [length_word]; omega) (by rw [v2, val_neg, val_neg, vP, Int.neg_mul])
  rw [eq2] at e2
  have vv : ∀ z, Word z → impl_ValueOf.f k z = some (val z) := fun z hz => by
    have := hz.2.1
    rw [impl_ValueOf_f k z (by omega) (by omega), if_pos hz]
  rw [laws_FnProducts.j0, if_neg (by simp), et, bsome, impl_NegateWord_f k a (by omega) (by omega), na, bsome, impl_MultiplyWords_f k _ b (by omega) (by omega) (by omega), e2, bsome, et2, bsome, if_neg (by omega)]
  generalize Int.tmod t (w.length : Int) = i at *
  obtain ⟨i, rfl⟩ : ∃ m : Nat, i = (m : Int) := ⟨i.toNat, by omega⟩
  rw [impl_CutProduct_f k a b (i : Int) (by omega) (by omega) (by omega) w e1 (by omega) (by omega) (by omega), bsome, show ((i : Int)).toNat = i from by omega]
  simp only [↓reduceIte]
  have ld : (w.drop i).length = w.length - i := List.length_drop
  have hd : Word (w.drop i) := ⟨by omega, by omega, hP.2.2.drop i⟩
  obtain ⟨cv, cb⟩ := cut_val w hP i (by omega)
  have pl := pow3_lim i
  have ln := lim_nonneg i
  have li : lim i ≤ lim 30 := lim_mono (by omega)
  have lab : lim (a.length + b.length) ≤ lim 30 := lim_mono (by omega)
  rw [lim30] at li lab
  have cm : val (w.drop i) * pow3 i = val w - val (w.take i) := by rw [Int.mul_comm]; omega
  rw [laws_ints_f k w w (by omega) (by omega), bsome, if_pos (by simp), impl_NegateWord_f k w (by omega) (by omega), nP, bsome, laws_ints_f k _ _ (by omega) (by omega), bsome, if_pos (by simp), impl_SignWord_f k w (by omega) hP, bsome, impl_SignWord_f k a (by omega) ha, bsome, impl_SignWord_f k b (by omega) hb, bsome, if_pos (by rw [vP]; exact sg_mul _ _), w64 ((w.length : Int) - i) (by omega) (by omega), if_pos (by omega), vv w hP, bsome, vv _ hd, bsome, spec_MakePower_f k (i : Int) (by omega) (by omega) (by omega), bsome, show ((i : Int)).toNat = i from by omega, cm, w64 (val w - val (w.take i)) (by omega) (by omega), show val w - (val w - val (w.take i)) = val (w.take i) from by omega, w64 (val (w.take i)) (by omega) (by omega), laws_abs_f _ (by omega) (by omega), bsome, bsome]
  have ab := abs3_le (d := val (w.take i)) (B := lim i) (by omega) (by omega)
  have an := abs3_nonneg (val (w.take i))
  rw [w64 (2 * abs3 (val (w.take i))) (by omega) (by omega), decide_eq_true (by omega)]
end FnProductsParts
open FnProductsParts
attribute [local congr] bind_left

theorem FnProducts : laws_FnProducts.Pure := by
  intro l0 _ hl hwf
  obtain ⟨K, hK⟩ : ∃ K, 100000000 ≤ K := ⟨_, Nat.le_refl _⟩
  refine ⟨K + 1, ?_⟩
  unfold laws_FnProducts.f
  by_cases h0 : (l0.length : Int) > 1048576
  · rw [if_pos h0]
  obtain ⟨a, ea, ha, la⟩ := spec_MakeWord_f (K + 1) l0 15 (by omega) (by omega) (by omega) (by omega)
  obtain ⟨c, ec, hc⟩ := laws_fresh_f (K + 1) l0 3 (by omega) (by omega)
  obtain ⟨b, eb, hb, lb⟩ := spec_MakeWord_f (K + 1) c 15 (by omega) (by omega) (by omega) (by omega)
  have a1 := ha.1
  have b1 := hb.1
  have m1 : Word a ∧ Word b ∧ a.length + b.length ≤ 30 := ⟨ha, hb, by omega⟩
  have e1 : mulOf a b = (word (val a * val b) (a.length + b.length), true) := if_pos m1
  have e2 : mulOf b a = (word (val a * val b) (a.length + b.length), true) := by
    unfold mulOf
    rw [if_pos ⟨hb, ha, by omega⟩, Int.mul_comm, Nat.add_comm]
  have bd := mul_bds m1
  have hP := word_word (val a * val b) (a.length + b.length) (by omega) (by omega)
  have vP := val_word (a.length + b.length) (val a * val b) bd.1.1 bd.1.2
  have lP := length_word (val a * val b) (a.length + b.length)
  obtain ⟨rows, er, hr, hg, hs⟩ := impl_PartialsOf_f (K + 1) a b (by omega) ha hb (by omega)
  have vv : ∀ z, Word z → impl_ValueOf.f (K + 1) z = some (val z) := fun z hz => by
    have := hz.2.1
    rw [impl_ValueOf_f _ z (by omega) (by omega), if_pos hz]
  rw [if_neg h0, ea, bsome, ec, bsome, eb, bsome, impl_MultiplyWords_f _ a b (by omega) (by omega) (by omega), e1, bsome, impl_MultiplyWords_f _ b a (by omega) (by omega) (by omega), e2, bsome, er, bsome]
  simp only [↓reduceIte]
  generalize word (val a * val b) (a.length + b.length) = P at *
  rw [w64 ((a.length : Int) + b.length) (by omega) (by omega), if_pos (by omega), laws_ints_f _ P P (by omega) (by omega), bsome, if_pos (by simp), if_pos (by omega), vv P hP, bsome, vv a ha, bsome, vv b hb, bsome, vP, w64 (val a * val b) (by omega) (by omega), bne_self_eq_false]
  exact prodEnd K l0 a b P rows (by omega) (by omega) hwf ha hb (by omega) e1 hP lP vP hr hg hs

end Go.Proofs.Ytcgfcnpiekcofaa.Pure
