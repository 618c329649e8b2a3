/- For all data the floating number of a word's value is near this, is read back from its text, and is exact where six trits are enough; no condition. -/
import Derived.Test.YtffhddibgfaopaaDoorZDlPx14
import Derived.Test.YtffhddibgfaopaaDoorZDlGlue
namespace Go.Proofs.YtffhddibgfaopaaDoor.Pure
open Go.RowKit Go.Proofs.YtffhddibgfaopaaDoor.Tern Go.Proofs.YtffhddibgfaopaaDoor.P Go.Proofs.YtffhddibgfaopaaDoorW.PrintWords Go.Proofs.YtffhddibgfaopaaDoorW.PrintLast
set_option linter.unusedVariables false
set_option linter.unusedSimpArgs false

namespace FnFloatsParts
theorem impl_IsTrit_f (a : Int) : impl_IsTrit.f a = some (decide (Trit a)) := by
  unfold impl_IsTrit.f Trit
  split
  · rename_i h
    simp [show -1 ≤ a from h]
  · rename_i h
    have : ¬ (-1 ≤ a) := h
    simp [this]
theorem spec_IsTrit_f (a : Int) : spec_IsTrit.f a = some (decide (Trit a)) := by
  unfold spec_IsTrit.f spec_l1In.f Trit
  split
  · rename_i h
    simp [show -1 ≤ a from h]
  · rename_i h
    have : ¬ (-1 ≤ a) := h
    simp [this]
theorem spec_l1In_f (x a b : Int) : spec_l1In.f x a b = some (decide (a ≤ x ∧ x ≤ b)) := by
  unfold spec_l1In.f
  split
  · rename_i h
    simp [show a ≤ x from h]
  · rename_i h
    have : ¬ (a ≤ x) := h
    simp [this]
theorem impl_trits_l0 (l : List Int) (hl : l.length ≤ 2000000) : ∀ (d k i : Nat), i + d = l.length → d < k →
    impl_trits.l0 k l (l.length : Int) (i : Int) = some (decide (Trits (l.drop i))) := by
  intro d
  induction d with
  | zero =>
    intro k i h hk
    obtain ⟨k, rfl⟩ : ∃ m, k = m + 1 := ⟨k - 1, by omega⟩
    simp only [impl_trits.l0]
    rw [if_neg (by omega), List.drop_eq_nil_of_le (by omega)]
    simp [Trits.nil]
  | succ d ih =>
    intro k i h hk
    obtain ⟨k, rfl⟩ : ∃ m, k = m + 1 := ⟨k - 1, by omega⟩
    simp only [impl_trits.l0]
    rw [if_pos (by omega), if_pos (by omega), if_pos (by omega), impl_IsTrit_f, drop_rd l i (by omega)]
    simp only [bsome, Trits.cons]
    by_cases ht : Trit (rd l (i : Int))
    · rw [if_pos (by simpa using ht), w64 _ (by omega) (by omega)]
      have := ih k (i + 1) (by omega) (by omega)
      rw [show ((i + 1 : Nat) : Int) = (i : Int) + 1 from by omega] at this
      rw [this]; simp [ht]
    · rw [if_neg (by simpa using ht)]; simp [ht]
theorem impl_trits_f (k : Nat) (l : List Int) (hk : 2000001 ≤ k) (hl : l.length ≤ 2000000) : impl_trits.f k l = some (decide (Trits l)) := by
  unfold impl_trits.f
  have := impl_trits_l0 l hl l.length k 0 (by omega) (by omega)
  simpa using this
theorem impl_IsWord_f (k : Nat) (l : List Int) (hk : 2000001 ≤ k) (hl : l.length ≤ 2000000) : impl_IsWord.f k l = some (decide (Word l)) := by
  unfold impl_IsWord.f Word
  rw [impl_trits_f k l hk hl]
  by_cases h1 : 1 ≤ l.length
  · rw [if_pos (by omega)]
    by_cases h2 : l.length ≤ 30
    · rw [if_pos (by omega)]; simp [h1, h2]
    · rw [if_neg (by omega)]; simp [h2]
  · rw [if_neg (by omega)]; simp [h1]
theorem spec_IsWord_l0 (l : List Int) (hl : l.length ≤ 2000000) : ∀ (d k i : Nat), i + d = l.length → d < k →
    spec_IsWord.l0 k l l (l.length : Int) (i : Int) = some (decide (1 ≤ l.length ∧ l.length ≤ 30 ∧ Trits (l.drop i))) := by
  intro d
  induction d with
  | zero =>
    intro k i h hk
    obtain ⟨k, rfl⟩ : ∃ m, k = m + 1 := ⟨k - 1, by omega⟩
    simp only [spec_IsWord.l0]
    rw [if_neg (by omega), List.drop_eq_nil_of_le (by omega), spec_l1In_f]
    have e : (1 ≤ (l.length : Int) ∧ (l.length : Int) ≤ 30) = (1 ≤ l.length ∧ l.length ≤ 30) := by apply propext; omega
    simp [Trits.nil, e]
  | succ d ih =>
    intro k i h hk
    obtain ⟨k, rfl⟩ : ∃ m, k = m + 1 := ⟨k - 1, by omega⟩
    simp only [spec_IsWord.l0]
    rw [if_pos (by omega), if_pos (by omega), if_pos (by omega), spec_IsTrit_f, drop_rd l i (by omega)]
    simp only [bsome, Trits.cons]
    by_cases ht : Trit (rd l (i : Int))
    · rw [if_pos (by simpa using ht), w64 _ (by omega) (by omega)]
      have := ih k (i + 1) (by omega) (by omega)
      rw [show ((i + 1 : Nat) : Int) = (i : Int) + 1 from by omega] at this
      rw [this]; simp [ht]
    · rw [if_neg (by simpa using ht)]; simp [ht]
theorem spec_IsWord_f (k : Nat) (l : List Int) (hk : 2000001 ≤ k) (hl : l.length ≤ 2000000) : spec_IsWord.f k l = some (decide (Word l)) := by
  unfold spec_IsWord.f Word
  exact spec_IsWord_l0 l hl l.length k 0 (by omega) (by omega)
theorem impl_value_l0 (l : List Int) (hl : l.length ≤ 30) (hb : Digs l) : ∀ (n k : Nat) (x : Int), n ≤ l.length → n < k → x = (n : Int) - 1 →
    impl_value.l0 k l (val (l.drop n)) x = some (val l) := by
  intro n
  induction n with
  | zero =>
    intro k x h hk hx
    obtain ⟨k, rfl⟩ : ∃ m, k = m + 1 := ⟨k - 1, by omega⟩
    simp only [impl_value.l0]
    rw [if_neg (by omega), List.drop_zero]
  | succ n ih =>
    intro k x h hk hx
    obtain ⟨k, rfl⟩ : ∃ m, k = m + 1 := ⟨k - 1, by omega⟩
    obtain rfl : x = (n : Int) := by omega
    have b1 := val_drop_bd l hl hb (n + 1)
    have b2 := hb _ (rd_mem l n (by omega))
    simp only [impl_value.l0]
    rw [if_pos (by omega), if_pos (by omega), if_pos (by omega), w64 (3 * _) (by omega) (by omega), w64 _ (by omega) (by omega), w64 _ (by omega) (by omega)]
    have e : val (l.drop n) = 3 * val (l.drop (n + 1)) + rd l (n : Int) := by rw [drop_rd l n (by omega)]; simp only [val]; omega
    rw [← e]
    exact ih k _ (by omega) (by omega) rfl
theorem impl_value_f (k : Nat) (l : List Int) (hk : 31 ≤ k) (hl : l.length ≤ 30) (hb : Digs l) : impl_value.f k l = some (val l) := by
  unfold impl_value.f
  have := impl_value_l0 l hl hb l.length k (wrap64 ((l.length : Int) - 1)) (Nat.le_refl _) (by omega) (w64 _ (by omega) (by omega))
  rw [List.drop_length] at this
  exact this
theorem spec_l2Value_l0 (l : List Int) (hl : l.length ≤ 30) (hb : Digs l) : ∀ (n k : Nat) (x : Int), n ≤ l.length → n < k → x = (n : Int) - 1 →
    spec_l2Value.l0 k l (val (l.drop n)) x = some (val l) := by
  intro n
  induction n with
  | zero =>
    intro k x h hk hx
    obtain ⟨k, rfl⟩ : ∃ m, k = m + 1 := ⟨k - 1, by omega⟩
    simp only [spec_l2Value.l0]
    rw [if_neg (by omega), List.drop_zero]
  | succ n ih =>
    intro k x h hk hx
    obtain ⟨k, rfl⟩ : ∃ m, k = m + 1 := ⟨k - 1, by omega⟩
    obtain rfl : x = (n : Int) := by omega
    have b1 := val_drop_bd l hl hb (n + 1)
    have b2 := hb _ (rd_mem l n (by omega))
    simp only [spec_l2Value.l0]
    rw [if_pos (by omega), if_pos (by omega), if_pos (by omega), w64 (3 * _) (by omega) (by omega), w64 _ (by omega) (by omega), w64 _ (by omega) (by omega)]
    have e : val (l.drop n) = 3 * val (l.drop (n + 1)) + rd l (n : Int) := by rw [drop_rd l n (by omega)]; simp only [val]; omega
    rw [← e]
    exact ih k _ (by omega) (by omega) rfl
theorem spec_l2Value_f (k : Nat) (l : List Int) (hk : 31 ≤ k) (hl : l.length ≤ 30) (hb : Digs l) : spec_l2Value.f k l = some (val l) := by
  unfold spec_l2Value.f
  have := spec_l2Value_l0 l hl hb l.length k (wrap64 ((l.length : Int) - 1)) (Nat.le_refl _) (by omega) (w64 _ (by omega) (by omega))
  rw [List.drop_length] at this
  exact this
theorem impl_ValueOf_f (k : Nat) (l : List Int) (hk : 2000001 ≤ k) (hl : l.length ≤ 2000000) : impl_ValueOf.f k l = some (if Word l then val l else 0) := by
  unfold impl_ValueOf.f
  rw [impl_IsWord_f k l hk hl]
  by_cases h : Word l
  · simp [h, impl_value_f k l (by omega) h.2.1 h.2.2.digs]
  · simp [h]
theorem impl_power_l0 (a : Int) (ha : a ≤ 30) : ∀ (d k i : Nat), (i : Int) + d = a → d < k → impl_power.l0 k (pow3 i) a (i : Int) = some (pow3 a.toNat) := by
  intro d
  induction d with
  | zero =>
    intro k i h hk
    obtain ⟨k, rfl⟩ : ∃ m, k = m + 1 := ⟨k - 1, by omega⟩
    simp only [impl_power.l0]
    rw [if_neg (by omega), show a.toNat = i from by omega]
  | succ d ih =>
    intro k i h hk
    obtain ⟨k, rfl⟩ : ∃ m, k = m + 1 := ⟨k - 1, by omega⟩
    have h1 := pow3_pos i
    have h2 : pow3 i ≤ pow3 30 := pow3_mono (by omega)
    rw [pow3_30] at h2
    simp only [impl_power.l0]
    rw [if_pos (by omega), w64 _ (by omega) (by omega), w64 _ (by omega) (by omega)]
    have := ih k (i + 1) (by omega) (by omega)
    simp only [pow3] at this
    rw [show pow3 i * 3 = 3 * pow3 i from by omega, show (i : Int) + 1 = ((i + 1 : Nat) : Int) from by omega]
    exact this
theorem impl_power_f (k : Nat) (a : Int) (hk : 31 ≤ k) (ha : a ≤ 30) : impl_power.f k a = some (pow3 a.toNat) := by
  unfold impl_power.f
  by_cases h : 0 ≤ a
  · exact impl_power_l0 a ha a.toNat k 0 (by omega) (by omega)
  · obtain ⟨k, rfl⟩ : ∃ m, k = m + 1 := ⟨k - 1, by omega⟩
    simp only [impl_power.l0]
    rw [if_neg (by omega), show a.toNat = 0 from by omega]; rfl
theorem impl_LimitOf_f (k : Nat) (a : Int) (hk : 31 ≤ k) : impl_LimitOf.f k a = some (if 1 ≤ a ∧ a ≤ 30 then lim a.toNat else 0) := by
  unfold impl_LimitOf.f
  by_cases h1 : a < 1
  · rw [if_pos h1, if_neg (by omega)]
  · rw [if_neg h1]
    by_cases h2 : a > 30
    · rw [if_pos h2, if_neg (by omega)]
    · rw [if_neg h2, impl_power_f k a hk (by omega), if_pos (by omega)]
      have h3 := pow3_lim a.toNat
      have h4 := lim_nonneg a.toNat
      have h5 : lim a.toNat ≤ lim 30 := lim_mono (by omega)
      rw [lim30] at h5
      simp only [bsome]
      rw [w64 (pow3 _ - 1) (by omega) (by omega), h3, show 2 * lim a.toNat + 1 - 1 = 2 * lim a.toNat from by omega, Int.mul_tdiv_cancel_left _ (by omega), w64 _ (by omega) (by omega)]
theorem impl_fits_f (k : Nat) (n a : Int) (hk : 31 ≤ k) (h1 : 1 ≤ a) (h2 : a ≤ 30) : impl_fits.f k n a = some (decide (-lim a.toNat ≤ n ∧ n ≤ lim a.toNat)) := by
  unfold impl_fits.f
  have h4 := lim_nonneg a.toNat
  have h5 : lim a.toNat ≤ lim 30 := lim_mono (by omega)
  rw [lim30] at h5
  rw [impl_LimitOf_f k a hk, if_pos ⟨h1, h2⟩]
  simp only [bsome]
  rw [w64 _ (by omega) (by omega)]
  by_cases h : n ≥ -lim a.toNat
  · rw [if_pos h]; simp [show -lim a.toNat ≤ n from h]
  · rw [if_neg h]
    have : ¬ -lim a.toNat ≤ n := h
    simp [this]
theorem impl_carried_tmod (n : Int) : ∃ c, impl_carried.f (Int.tmod n 3) = some (low3 n, c) := by
  unfold impl_carried.f low3
  rcases Int.le_total 0 n with h | h
  · rw [tmod3_nonneg n h]
    split
    · rw [w64 _ (by omega) (by omega)]; exact ⟨1, by congr 2; omega⟩
    · rw [if_neg (by omega)]; exact ⟨0, by congr 2; omega⟩
  · have e2 := tmod3_nonpos n h
    rw [e2]
    split
    · omega
    · split
      · rw [w64 _ (by omega) (by omega)]; exact ⟨-1, by congr 2; omega⟩
      · exact ⟨0, by congr 2; omega⟩
theorem tdiv_low3 (n : Int) : Int.tdiv (n - low3 n) 3 = rest3 n := by
  have := low3_rest3 n
  rw [show n - low3 n = 3 * rest3 n from by omega, Int.mul_tdiv_cancel_left _ (by omega)]
theorem rest3_bd (n B : Int) (hB : 0 ≤ B) (h0 : -B ≤ n) (h1 : n ≤ B) : -B ≤ rest3 n ∧ rest3 n ≤ B := by unfold rest3; omega
theorem impl_WordOf_l0 (a : Int) (ha : a ≤ 30) : ∀ (d k i : Nat) (n : Int) (acc : List Int), (i : Int) + d = a → d < k → acc.length = i → -1000000000000000000 ≤ n → n ≤ 1000000000000000000 →
    impl_WordOf.l0 k n acc a (i : Int) = some (acc ++ word n d, true) := by
  intro d
  induction d with
  | zero =>
    intro k i n acc h hk hl h0 h1
    obtain ⟨k, rfl⟩ : ∃ m, k = m + 1 := ⟨k - 1, by omega⟩
    simp only [impl_WordOf.l0]
    rw [if_neg (by omega)]; simp [word]
  | succ d ih =>
    intro k i n acc h hk hl h0 h1
    obtain ⟨k, rfl⟩ : ∃ m, k = m + 1 := ⟨k - 1, by omega⟩
    obtain ⟨c, hc⟩ := impl_carried_tmod n
    have ht := low3_trit n
    unfold Trit at ht
    have hu := rest3_bd n 1000000000000000000 (by omega) (by omega) h1
    simp only [impl_WordOf.l0]
    rw [if_pos (by omega), hc]
    simp only [bsome]
    rw [if_pos (by omega), w64 (n - low3 n) (by omega) (by omega), tdiv_low3, w64 (rest3 n) (by omega) (by omega), w64 _ (by omega) (by omega), show (i : Int) + 1 = ((i + 1 : Nat) : Int) from by omega,
      ih k (i + 1) (rest3 n) (acc ++ [low3 n]) (by omega) (by omega) (by simp [hl]) hu.1 hu.2]
    simp [word]
theorem impl_WordOf_f (k : Nat) (n a : Int) (hk : 40 ≤ k) (ha : -9223372036854775808 ≤ a) : impl_WordOf.f k n a = some (wordOf n a) := by
  obtain ⟨k, rfl⟩ : ∃ m, k = m + 1 := ⟨k - 1, by omega⟩
  unfold impl_WordOf.f wordOf
  by_cases h1 : a < 1
  · rw [if_pos h1, if_neg (by omega)]; simp only [impl_WordOf.j0]; rfl
  · rw [if_neg h1]
    by_cases h2 : a > 30
    · rw [if_pos h2, if_neg (by omega)]; simp only [impl_WordOf.j0]; rfl
    · rw [if_neg h2, impl_fits_f _ n a (by omega) (by omega) (by omega)]
      simp only [bsome, impl_WordOf.j0]
      have h5 : lim a.toNat ≤ lim 30 := lim_mono (by omega)
      rw [lim30] at h5
      by_cases h : -lim a.toNat ≤ n ∧ n ≤ lim a.toNat
      · rw [if_neg (by simpa using h), if_pos ⟨by omega, by omega, h⟩]
        have := impl_WordOf_l0 a (by omega) a.toNat k 0 n [] (by omega) (by omega) rfl (by omega) (by omega)
        simpa using this
      · rw [if_pos (by rw [decide_eq_false h]; rfl), if_neg (fun hh => h hh.2.2)]
theorem mx_abs (d : Int) (h : -9223372036854775807 ≤ d) (h1 : d ≤ 9223372036854775807) : mx d (wrap64 (-d)) = abs3 d := by
  rw [w64 _ (by omega) (by omega)]
  unfold mx abs3
  split
  · rw [if_pos (by omega)]
  · split <;> omega
theorem laws_abs_f (d : Int) (h : -9223372036854775807 ≤ d) (h1 : d ≤ 9223372036854775807) : laws_abs.f d = some (abs3 d) := by
  unfold laws_abs.f
  rw [mx_abs d h h1]
theorem bits_and255 (x : Int) : 0 ≤ Go.bits .and .i64 x 255 ∧ Go.bits .and .i64 x 255 ≤ 255 := by
  have h : (BitVec.ofInt 64 x &&& BitVec.ofInt 64 255).toNat ≤ 255 := by
    rw [BitVec.toNat_and]
    exact Nat.le_trans Nat.and_le_right (by decide)
  have e : Go.bits .and .i64 x 255 = IntKind.i64.wrap ((BitVec.ofInt 64 x &&& BitVec.ofInt 64 255).toNat : Int) := rfl
  rw [e, IntKind.wrap_i64]
  omega
theorem spec_l01Byte_f (b : List Int) (i h : Int) (hb : b.length ≤ 2000000) (hi : 0 ≤ i) : ∃ r i' h', spec_l01Byte.f b i h = some (r, i', h') ∧ (0 ≤ r ∧ r ≤ 255) ∧ 0 ≤ i' := by
  unfold spec_l01Byte.f
  by_cases c : i < (b.length : Int)
  · rw [if_pos c, if_pos hi, w64 (i + 1) (by omega) (by omega)]
    exact ⟨_, _, _, rfl, bits_and255 _, by omega⟩
  · rw [if_neg c]
    exact ⟨_, _, _, rfl, bits_and255 _, hi⟩
theorem spec_l01Below_f (b : List Int) (i h n : Int) (hb : b.length ≤ 2000000) (hi : 0 ≤ i) (h1 : 1 ≤ n) (h2 : n ≤ 256) : ∃ r i' h', spec_l01Below.f b i h n = some (r, i', h') ∧ (0 ≤ r ∧ r < n) ∧ 0 ≤ i' := by
  obtain ⟨r, i', h', e, hr, hi'⟩ := spec_l01Byte_f b i h hb hi
  unfold spec_l01Below.f
  rw [if_neg (by omega), if_pos h2, e, bsome, if_neg (by omega)]
  refine ⟨_, _, _, rfl, ?_, hi'⟩
  show 0 ≤ Int.tmod r n ∧ Int.tmod r n < n
  exact (tmod_range (n := r) (by omega)).1 hr.1
theorem spec_l01New_f (k : Nat) (l : List Int) (hk : 2000002 ≤ k) (hl : l.length ≤ 2000000) : ∃ h, spec_l01New.f k l = some (l, 0, h) := by
  have key : ∀ (d k i : Nat) (h : Int), i + d = l.length → d < k → ∃ h', spec_l01New.l0 k l h (i : Int) = some (l, 0, h') := by
    intro d
    induction d with
    | zero =>
      intro k i h e hk
      obtain ⟨k, rfl⟩ : ∃ m, k = m + 1 := ⟨k - 1, by omega⟩
      rw [spec_l01New.l0, if_neg (by omega)]
      exact ⟨_, rfl⟩
    | succ d ih =>
      intro k i h e hk
      obtain ⟨k, rfl⟩ : ∃ m, k = m + 1 := ⟨k - 1, by omega⟩
      rw [spec_l01New.l0, if_pos (by omega)]
      by_cases c : (i : Int) < 4000
      · rw [if_pos c, if_pos (by omega), w64 ((i : Int) + 1) (by omega) (by omega), show (i : Int) + 1 = ((i + 1 : Nat) : Int) from by omega]
        exact ih k (i + 1) _ (by omega) (by omega)
      · rw [if_neg c]
        exact ⟨_, rfl⟩
  unfold spec_l01New.f
  exact key l.length k 0 _ (by omega) (by omega)
theorem spec_l2Draw_l1 (b : List Int) (i h : Int) : ∀ (d k j : Nat) (w : List Int), j + d = w.length → d < k → w.length ≤ 30 → Trits w → ∃ w', spec_l2Draw.l1 k w (w.length : Int) (j : Int) b i h = some (w', i, h) ∧ w'.length = w.length ∧ Trits w' := by
  intro d
  induction d with
  | zero =>
    intro k j w e hk hw ht
    obtain ⟨k, rfl⟩ : ∃ m, k = m + 1 := ⟨k - 1, by omega⟩
    rw [spec_l2Draw.l1, if_neg (by omega)]
    exact ⟨w, rfl, rfl, ht⟩
  | succ d ih =>
    intro k j w e hk hw ht
    obtain ⟨k, rfl⟩ : ∃ m, k = m + 1 := ⟨k - 1, by omega⟩
    rw [spec_l2Draw.l1, if_pos (by omega), if_pos (by omega), if_pos (by omega), w64 _ (by omega) (by omega), show (j : Int) + 1 = ((j + 1 : Nat) : Int) from by omega]
    obtain ⟨w', e', l', t'⟩ := ih k (j + 1) (w.set (j : Int).toNat 1) (by rw [List.length_set]; omega) (by omega) (by rw [List.length_set]; omega) (by
      intro a ha
      rcases List.mem_or_eq_of_mem_set ha with h1 | h1
      · exact ht a h1
      · rw [h1]; unfold Trit; omega)
    rw [List.length_set] at e' l'
    exact ⟨w', e', l', t'⟩
theorem spec_l2Draw_l2 (b : List Int) (i h : Int) : ∀ (d k j : Nat) (w : List Int), j + d = w.length → d < k → w.length ≤ 30 → Trits w → ∃ w', spec_l2Draw.l2 k w (w.length : Int) (j : Int) b i h = some (w', i, h) ∧ w'.length = w.length ∧ Trits w' := by
  intro d
  induction d with
  | zero =>
    intro k j w e hk hw ht
    obtain ⟨k, rfl⟩ : ∃ m, k = m + 1 := ⟨k - 1, by omega⟩
    rw [spec_l2Draw.l2, if_neg (by omega)]
    exact ⟨w, rfl, rfl, ht⟩
  | succ d ih =>
    intro k j w e hk hw ht
    obtain ⟨k, rfl⟩ : ∃ m, k = m + 1 := ⟨k - 1, by omega⟩
    rw [spec_l2Draw.l2, if_pos (by omega), if_pos (by omega), if_pos (by omega), w64 _ (by omega) (by omega), show (j : Int) + 1 = ((j + 1 : Nat) : Int) from by omega]
    obtain ⟨w', e', l', t'⟩ := ih k (j + 1) (w.set (j : Int).toNat (-1)) (by rw [List.length_set]; omega) (by omega) (by rw [List.length_set]; omega) (by
      intro a ha
      rcases List.mem_or_eq_of_mem_set ha with h1 | h1
      · exact ht a h1
      · rw [h1]; unfold Trit; omega)
    rw [List.length_set] at e' l'
    exact ⟨w', e', l', t'⟩
theorem spec_l2Draw_l3 (b : List Int) (i h : Int) : ∀ (d k j : Nat) (w : List Int), j + d = w.length → d < k → w.length ≤ 30 → Trits w → ∃ w', spec_l2Draw.l3 k w (w.length : Int) (j : Int) b i h = some (w', i, h) ∧ w'.length = w.length ∧ Trits w' := by
  intro d
  induction d with
  | zero =>
    intro k j w e hk hw ht
    obtain ⟨k, rfl⟩ : ∃ m, k = m + 1 := ⟨k - 1, by omega⟩
    rw [spec_l2Draw.l3, if_neg (by omega)]
    exact ⟨w, rfl, rfl, ht⟩
  | succ d ih =>
    intro k j w e hk hw ht
    obtain ⟨k, rfl⟩ : ∃ m, k = m + 1 := ⟨k - 1, by omega⟩
    rw [spec_l2Draw.l3, if_pos (by omega), if_pos (by omega), if_pos (by omega), w64 _ (by omega) (by omega), show (j : Int) + 1 = ((j + 1 : Nat) : Int) from by omega]
    obtain ⟨w', e', l', t'⟩ := ih k (j + 1) (w.set (j : Int).toNat 0) (by rw [List.length_set]; omega) (by omega) (by rw [List.length_set]; omega) (by
      intro a ha
      rcases List.mem_or_eq_of_mem_set ha with h1 | h1
      · exact ht a h1
      · rw [h1]; unfold Trit; omega)
    rw [List.length_set] at e' l'
    exact ⟨w', e', l', t'⟩
theorem spec_l2Draw_l0 (b : List Int) (hb : b.length ≤ 2000000) : ∀ (d k : Nat) (n i h : Int) (w : List Int), n = d → d + 100 < k → 0 ≤ i → w.length + d ≤ 30 → Trits w →
    ∃ w' i' h', spec_l2Draw.l0 k w n b i h = some (w', i', h') ∧ w'.length = w.length + d ∧ Trits w' ∧ 0 ≤ i' := by
  intro d
  induction d with
  | zero =>
    intro k n i h w hn hk hi hw ht
    obtain ⟨k, rfl⟩ : ∃ m, k = m + 1 := ⟨k - 1, by omega⟩
    obtain ⟨r, i', h', e, hr, hi'⟩ := spec_l01Below_f b i h 12 hb hi (by omega) (by omega)
    rw [spec_l2Draw.l0, if_neg (by omega), e, bsome]
    by_cases c0 : r = 0
    · rw [if_pos c0]
      obtain ⟨w', e', l', t'⟩ := spec_l2Draw_l1 b i' h' w.length k 0 w (by omega) (by omega) (by omega) ht
      exact ⟨w', _, _, e', by omega, t', hi'⟩
    rw [if_neg c0]
    by_cases c1 : r = 1
    · rw [if_pos c1]
      obtain ⟨w', e', l', t'⟩ := spec_l2Draw_l2 b i' h' w.length k 0 w (by omega) (by omega) (by omega) ht
      exact ⟨w', _, _, e', by omega, t', hi'⟩
    rw [if_neg c1]
    by_cases c2 : r = 2
    · rw [if_pos c2]
      obtain ⟨w', e', l', t'⟩ := spec_l2Draw_l3 b i' h' w.length k 0 w (by omega) (by omega) (by omega) ht
      exact ⟨w', _, _, e', by omega, t', hi'⟩
    rw [if_neg c2]
    exact ⟨w, _, _, rfl, by omega, ht, hi'⟩
  | succ d ih =>
    intro k n i h w hn hk hi hw ht
    obtain ⟨k, rfl⟩ : ∃ m, k = m + 1 := ⟨k - 1, by omega⟩
    obtain ⟨r, i', h', e, hr, hi'⟩ := spec_l01Below_f b i h 3 hb hi (by omega) (by omega)
    rw [spec_l2Draw.l0, if_pos (by omega), e, bsome, if_pos (by omega), w64 (r - 1) (by omega) (by omega), w64 (n - 1) (by omega) (by omega)]
    obtain ⟨w', i2, h2, e', l', t', hi2⟩ := ih k (n - 1) i' h' (w ++ [r - 1]) (by omega) (by omega) hi' (by simp; omega) (ht.append (by intro a ha; simp at ha; subst ha; unfold Trit; omega))
    exact ⟨w', i2, h2, e', by simp at l'; omega, t', hi2⟩
theorem spec_l2Draw_f (k : Nat) (b : List Int) (i h m : Int) (hk : 1000 ≤ k) (hb : b.length ≤ 2000000) (hi : 0 ≤ i) (h1 : 1 ≤ m) (h2 : m ≤ 30) : ∃ w i' h', spec_l2Draw.f k b i h m = some (w, i', h') ∧ Word w ∧ (w.length : Int) ≤ m ∧ 0 ≤ i' := by
  obtain ⟨r, i', h', e, hr, hi'⟩ := spec_l01Below_f b i h m hb hi h1 (by omega)
  unfold spec_l2Draw.f
  rw [e, bsome, w64 (1 + r) (by omega) (by omega)]
  obtain ⟨w', i2, h2', e', l', t', hi2⟩ := spec_l2Draw_l0 b hb (1 + r).toNat k (1 + r) i' h' [] (by omega) (by omega) hi' (by simp; omega) Trits.nil
  simp only [List.length_nil] at l'
  exact ⟨w', i2, h2', e', ⟨by omega, by omega, t'⟩, by omega, hi2⟩
theorem spec_MakeWord_f (k : Nat) (l : List Int) (m : Int) (hk : 2000002 ≤ k) (hl : l.length ≤ 2000000) (h1 : 1 ≤ m) (h2 : m ≤ 30) : ∃ w, spec_MakeWord.f k l m = some w ∧ Word w ∧ (w.length : Int) ≤ m := by
  obtain ⟨h, e⟩ := spec_l01New_f k l hk hl
  have em : mx 1 (mn m 30) = m := by unfold mx mn; split <;> split <;> omega
  unfold spec_MakeWord.f
  rw [e, bsome, em]
  obtain ⟨w, i', h', e', hw, hm, _⟩ := spec_l2Draw_f k l 0 h m (by omega) hl (by omega) h1 h2
  rw [e', bsome]
  exact ⟨w, rfl, hw, hm⟩
theorem spec_l5Lift_f (k : Nat) (x n : Int) (hk : 50 ≤ k) (hn : n ≤ 30) (h0 : -10000 ≤ x) (h1 : x ≤ 10000) : spec_l5Lift.f k x n = some (x * pow3 n.toNat) := by
  have key : ∀ (d k i : Nat) (n : Int), n = d → d < k → i + d ≤ 30 → spec_l5Lift.l0 k (x * pow3 i) n = some (x * pow3 (i + d)) := by
    intro d
    induction d with
    | zero =>
      intro k i n e hk hi
      obtain ⟨k, rfl⟩ : ∃ m, k = m + 1 := ⟨k - 1, by omega⟩
      rw [spec_l5Lift.l0, if_neg (by omega)]; rfl
    | succ d ih =>
      intro k i n e hk hi
      obtain ⟨k, rfl⟩ : ∃ m, k = m + 1 := ⟨k - 1, by omega⟩
      have p1 := pow3_pos i
      have p2 : pow3 i ≤ pow3 30 := pow3_mono (by omega)
      rw [pow3_30] at p2
      have := mul_le (x := x) (y := pow3 i) (a := 10000) (b := 205891132094649) ⟨h0, h1⟩ ⟨by omega, p2⟩
      rw [spec_l5Lift.l0, if_pos (by omega), w64 (3 * _) (by omega) (by omega), w64 _ (by omega) (by omega), Int.mul_left_comm]
      have := ih k (i + 1) (n - 1) (by omega) (by omega) (by omega)
      rw [show i + 1 + d = i + (d + 1) from by omega] at this
      exact this
  unfold spec_l5Lift.f
  by_cases c : 0 ≤ n
  · have := key n.toNat k 0 n (by omega) (by omega) (by omega)
    simp only [pow3, Int.mul_one, Nat.zero_add] at this
    exact this
  · obtain ⟨k, rfl⟩ : ∃ m, k = m + 1 := ⟨k - 1, by omega⟩
    rw [spec_l5Lift.l0, if_neg (by omega), show n.toNat = 0 from by omega]; simp [pow3]
theorem spec_MakePower_f (k : Nat) (n : Int) (hk : 50 ≤ k) (h0 : 0 ≤ n) (hn : n ≤ 30) : spec_MakePower.f k n = some (pow3 n.toNat) := by
  have em : mx 0 (mn n 30) = n := by unfold mx mn; split <;> split <;> omega
  unfold spec_MakePower.f
  rw [em, spec_l5Lift_f k 1 n hk hn (by omega) (by omega), bsome, Int.one_mul]
theorem laws_ints_l0 (a b : List Int) (hl : a.length ≤ 2000000) (hb : a.length = b.length) : ∀ (d k i : Nat), i + d = a.length → d < k →
    laws_ints.l0 k a b (a.length : Int) (i : Int) = some (decide (a.drop i = b.drop i)) := by
  intro d
  induction d with
  | zero =>
    intro k i h hk
    obtain ⟨k, rfl⟩ : ∃ m, k = m + 1 := ⟨k - 1, by omega⟩
    simp only [laws_ints.l0]
    rw [if_neg (by omega), List.drop_eq_nil_of_le (by omega), List.drop_eq_nil_of_le (by omega)]; simp
  | succ d ih =>
    intro k i h hk
    obtain ⟨k, rfl⟩ : ∃ m, k = m + 1 := ⟨k - 1, by omega⟩
    simp only [laws_ints.l0]
    rw [if_pos (by omega), if_pos (by omega), if_pos (by omega), if_pos (by omega), drop_rd a i (by omega), drop_rd b i (by omega), w64 _ (by omega) (by omega)]
    by_cases c : rd a (i : Int) = rd b (i : Int)
    · rw [if_pos c, show (i : Int) + 1 = ((i + 1 : Nat) : Int) from by omega, ih k (i + 1) (by omega) (by omega)]
      simp [c]
    · rw [if_neg c]; simp [c]
theorem laws_ints_f (k : Nat) (a b : List Int) (hk : 2000001 ≤ k) (hl : a.length ≤ 2000000) : laws_ints.f k a b = some (decide (a = b)) := by
  unfold laws_ints.f
  by_cases h : a.length = b.length
  · rw [if_pos (by omega)]
    have := laws_ints_l0 a b hl h a.length k 0 (by omega) (by omega)
    simpa using this
  · rw [if_neg (by omega)]
    have : a ≠ b := fun e => h (by rw [e])
    simp [this]
theorem impl_highest_l0 (l : List Int) (hl : l.length ≤ 1000) (ht : Trits l) : ∀ (i k : Nat) (x : Int), i ≤ l.length → i < k → x = (i : Int) - 1 → impl_highest.l0 k l x = some (sg (val (l.take i))) := by
  intro i
  induction i with
  | zero =>
    intro k x h hk hx
    obtain ⟨k, rfl⟩ : ∃ m, k = m + 1 := ⟨k - 1, by omega⟩
    rw [impl_highest.l0, if_neg (by omega)]
    rfl
  | succ i ih =>
    intro k x h hk hx
    obtain ⟨k, rfl⟩ : ∃ m, k = m + 1 := ⟨k - 1, by omega⟩
    obtain rfl : x = (i : Int) := by omega
    have hy := ht _ (rd_mem l i (by omega))
    have lt : (l.take i).length = i := by rw [List.length_take]; omega
    have bd := val_bd (l.take i) (ht.take i)
    have p := pow3_lim i
    have va : val (l.take (i + 1)) = val (l.take i) + pow3 i * rd l (i : Int) := by
      rw [take_rd l i (by omega), val_append, lt]
      simp [val]
    rw [lt] at bd
    have ln := lim_nonneg i
    rw [impl_highest.l0, if_pos (by omega), if_pos (by omega), if_pos (by omega), va]
    generalize rd l (i : Int) = y at *
    unfold Trit at hy
    have : y = -1 ∨ y = 0 ∨ y = 1 := by omega
    rcases this with rfl | rfl | rfl
    · rw [if_neg (by omega)]
      unfold sg
      rw [if_pos (by omega)]
    · rw [if_pos rfl, Int.mul_zero, Int.add_zero]
      exact ih k _ (by omega) (by omega) (by rw [w64 _ (by omega) (by omega)])
    · rw [if_neg (by omega)]
      unfold sg
      rw [if_neg (by omega), if_pos (by omega)]
theorem impl_highest_f (k : Nat) (l : List Int) (hk : 2000 ≤ k) (hl : l.length ≤ 1000) (ht : Trits l) : impl_highest.f k l = some (sg (val l)) := by
  unfold impl_highest.f
  have := impl_highest_l0 l hl ht l.length k ((l.length : Int) - 1) (by omega) (by omega) rfl
  rw [List.take_length] at this
  rw [w64 _ (by omega) (by omega), this]
theorem sg_zero (v : Int) : sg v = 0 ↔ v = 0 := by
  unfold sg
  split
  · omega
  · split <;> omega
theorem impl_IsFloat_f (k : Nat) (l : List Int) (e : Int) (hk : 2000001 ≤ k) (hl : l.length ≤ 2000000) : impl_IsFloat.f k l e = some (decide (Fl l e)) := by
  unfold impl_IsFloat.f
  by_cases h6 : (l.length : Int) = 6
  · rw [if_pos h6, impl_trits_f k l hk hl, bsome]
    by_cases ht : Trits l
    · rw [if_pos (by simpa using ht)]
      by_cases h1 : e < -20
      · rw [if_pos h1, decide_eq_false]; intro h; have := h.2.2.1; omega
      · rw [if_neg h1]
        by_cases h2 : e > 20
        · rw [if_pos h2, decide_eq_false]; intro h; have := h.2.2.2.1; omega
        · rw [if_neg h2, if_pos (by omega)]
          have er : rd l 5 = l.getD 5 0 := rfl
          by_cases h3 : rd l 5 = 0
          · rw [if_pos h3, impl_highest_f k l (by omega) (by omega) ht, bsome]
            by_cases h4 : val l = 0
            · rw [if_pos ((sg_zero _).2 h4)]
              congr 1
              by_cases h5 : e = 0
              · subst h5; rw [decide_eq_true]; rfl; exact ⟨by omega, ht, by decide, by decide, .inr ⟨h4, rfl⟩⟩
              · rw [decide_eq_false]; simp [h5]
                intro h; rcases h.2.2.2.2 with h | h
                · exact h (er ▸ h3)
                · exact h5 h.2
            · rw [if_neg (fun h => h4 ((sg_zero _).1 h)), decide_eq_false]
              intro h; rcases h.2.2.2.2 with h | h
              · exact h (er ▸ h3)
              · exact h4 h.1
          · rw [if_neg h3, decide_eq_true]
            exact ⟨by omega, ht, by omega, by omega, .inl (fun h => h3 (er.trans h))⟩
    · rw [if_neg (by simpa using ht), decide_eq_false]; intro h; exact ht h.2.1
  · rw [if_neg h6, decide_eq_false]; intro h; have := h.1; omega
theorem spec_IsFloat_f (k : Nat) (l : List Int) (e : Int) (hk : 2000001 ≤ k) (hl : l.length ≤ 2000000) : spec_IsFloat.f k l e = some (decide (Fl l e)) := by
  unfold spec_IsFloat.f
  rw [spec_IsWord_f k l hk hl, bsome]
  by_cases hw : Word l
  · rw [if_pos (by simpa using hw)]
    by_cases h6 : (l.length : Int) = 6
    · rw [if_pos h6, spec_l1In_f, bsome]
      by_cases hr : -20 ≤ e ∧ e ≤ 20
      · rw [if_pos (by simpa using hr), if_pos (by omega)]
        have er : rd l 5 = l.getD 5 0 := rfl
        by_cases h3 : rd l 5 = 0
        · rw [if_pos h3]
          by_cases h5 : e = 0
          · rw [if_pos h5, spec_l2Value_f k l (by omega) hw.2.1 hw.2.2.digs, bsome]
            by_cases h4 : val l = 0
            · rw [decide_eq_true (p := Fl l e) ⟨by omega, hw.2.2, by omega, by omega, .inr ⟨h4, h5⟩⟩, h4]; rfl
            · rw [decide_eq_false]
              · simp [h4]
              · intro h; rcases h.2.2.2.2 with h | h
                · exact h (er ▸ h3)
                · exact h4 h.1
          · rw [if_neg h5, decide_eq_false]; intro h; rcases h.2.2.2.2 with h | h
            · exact h (er ▸ h3)
            · exact h5 h.2
        · rw [if_neg h3, decide_eq_true]; exact ⟨by omega, hw.2.2, by omega, by omega, .inl (fun h => h3 (er.trans h))⟩
      · rw [if_neg (by simpa using hr), decide_eq_false]; intro h; exact hr ⟨h.2.2.1, h.2.2.2.1⟩
    · rw [if_neg h6, decide_eq_false]; intro h; have := h.1; omega
  · rw [if_neg (by simpa using hw), decide_eq_false]; intro h; exact hw ⟨by have := h.1; omega, by have := h.1; omega, h.2.1⟩
theorem rd_L2_two (a b : List Int) : rd_L3 [a, b] 0 = a ∧ rd_L3 [a, b] 1 = b := ⟨rfl, rfl⟩
theorem slices_Concat_f2 (k : Nat) (a b : List Int) (hk : 100 ≤ k) (ha : a.length ≤ 2000000) (hb : b.length ≤ 2000000) : slices_Concat_int_int.f k [a, b] = some (a ++ b) := by
  obtain ⟨k, rfl⟩ : ∃ m, k = m + 6 := ⟨k - 6, by omega⟩
  unfold slices_Concat_int_int.f
  have l2 : (([a, b] : List (List Int)).length : Int) = 2 := rfl
  rw [l2, slices_Concat_int_int.l0, l2, if_pos (by omega), if_pos (by omega), if_pos (by omega), (rd_L2_two a b).1, w64 (0 + (a.length : Int)) (by omega) (by omega), if_neg (by omega), w64 (0 + 1) (by omega) (by omega), Int.zero_add, Int.zero_add]
  rw [slices_Concat_int_int.l0, l2, if_pos (by omega), if_pos (by omega), if_pos (by omega), (rd_L2_two a b).2, w64 ((a.length : Int) + (b.length : Int)) (by omega) (by omega), if_neg (by omega), w64 (1 + 1) (by omega) (by omega)]
  rw [slices_Concat_int_int.l0, if_neg (by omega)]
  unfold slices_Grow_int_int.f
  rw [if_pos (by omega), if_pos (by omega), if_pos List.length_nil, bsome, l2]
  rw [slices_Concat_int_int.l1, l2, if_pos (by omega), if_pos (by omega), if_pos (by omega), (rd_L2_two a b).1, if_pos (by rw [List.length_nil]; omega), w64 (0 + 1) (by omega) (by omega), List.nil_append, Int.zero_add]
  rw [slices_Concat_int_int.l1, l2, if_pos (by omega), if_pos (by omega), if_pos (by omega), (rd_L2_two a b).2, if_pos (by omega), w64 (1 + 1) (by omega) (by omega)]
  rw [slices_Concat_int_int.l1, if_neg (by omega)]
theorem cut_end (k : Nat) (w : List Int) (e : Int) (hk : 2000100 ≤ k) (hl : w.length ≤ 100) (ht : Trits w) (h0 : -1000 ≤ e) (h1 : e ≤ 1000) : impl_cut.j1 (k + 1) w e (tops w : Int) = some (flo (val w) e) := by
  have htl := tops_le w
  rw [impl_cut.j1]
  by_cases hz : tops w = 0
  · rw [if_pos (by omega), if_pos (by decide), (val_tops w).2 hz]
    rfl
  · have hv : val w ≠ 0 := by intro h; have := tops_len3 w ht; rw [h, len3_zero] at this; omega
    have hlen := tops_len3 w ht
    rw [if_neg (by omega), if_pos (by decide), if_pos (by omega), if_pos (by omega), Int.toNat_natCast, take_tops w ht, slices_Concat_f2 k _ _ (by omega) (by simp) (by rw [length_word]; omega), bsome]
    rw [if_pos (by rw [List.length_append, List.length_replicate, length_word]; omega)]
    have ed : (List.replicate 6 0 ++ word (val w) (len3 (val w))).drop (tops w) = digs (val w) := by unfold digs; rw [hlen]
    unfold slices_Clone_int_int.f
    rw [ed, if_pos (by rw [digs_len]; decide), bsome, w64 (e + (tops w : Int)) (by omega) (by omega), w64 _ (by omega) (by omega), impl_IsFloat_f k _ _ (by omega) (by rw [digs_len]; decide), bsome]
    unfold flo
    rw [if_neg hv, hlen]
    by_cases hr : -20 ≤ e + (tops w : Int) - 6 ∧ e + (tops w : Int) - 6 ≤ 20
    · rw [if_pos (by simpa [fl_digs hv] using hr), if_pos hr]
    · rw [if_neg (by simpa [fl_digs hv] using hr), if_neg hr]
theorem impl_cut_f (k : Nat) (w : List Int) (e : Int) (hk : 2000300 ≤ k) (hl : w.length ≤ 100) (ht : Trits w) (h0 : -1000 ≤ e) (h1 : e ≤ 1000) : impl_cut.f k w e = some (flo (val w) e) := by
  have htl := tops_le w
  have key : ∀ (d k i : Nat), i = tops w + d → i ≤ w.length → d + 2000150 < k → impl_cut.l0 k w e (i : Int) = some (flo (val w) e) := by
    intro d
    induction d with
    | zero =>
      intro k i hi hle hk
      obtain ⟨k, rfl⟩ : ∃ m, k = m + 2 := ⟨k - 2, by omega⟩
      rw [impl_cut.l0]
      have hj := cut_end k w e (by omega) hl ht h0 h1
      obtain rfl : i = tops w := by omega
      by_cases hz : tops w = 0
      · rw [if_neg (by omega), hj]
      · obtain ⟨n, hn⟩ : ∃ n, tops w = n + 1 := ⟨tops w - 1, by omega⟩
        have hne := tops_last w n hn
        rw [if_pos (by omega), w64 _ (by omega) (by omega), if_pos (by omega), if_pos (by omega), show ((tops w : Nat) : Int) - 1 = (n : Int) by omega, rd_nat, if_neg hne, hj]
    | succ d ih =>
      intro k i hi hle hk
      obtain ⟨k, rfl⟩ : ∃ m, k = m + 1 := ⟨k - 1, by omega⟩
      obtain ⟨n, rfl⟩ : ∃ n, i = n + 1 := ⟨i - 1, by omega⟩
      have hz := getD_tops w n (by omega)
      rw [impl_cut.l0, if_pos (by omega), w64 _ (by omega) (by omega), if_pos (by omega), if_pos (by omega), show ((n + 1 : Nat) : Int) - 1 = (n : Int) by omega, rd_nat, if_pos hz]
      exact ih k n (by omega) (by omega) (by omega)
  unfold impl_cut.f
  exact key (w.length - tops w) k w.length (by omega) (Nat.le_refl _) (by omega)
def floatOf (n e : Int) : List Int × Int × Bool := if -100 ≤ e ∧ e ≤ 100 ∧ -lim 30 ≤ n ∧ n ≤ lim 30 then flo n e else ([], 0, false)
theorem impl_floated_f (k : Nat) (n e : Int) (hk : 2000300 ≤ k) (h0 : -1000 ≤ e) (h1 : e ≤ 1000) : impl_floated.f k n e = some (if -lim 30 ≤ n ∧ n ≤ lim 30 then flo n e else ([], 0, false)) := by
  unfold impl_floated.f
  rw [impl_WordOf_f k n 30 (by omega) (by omega), bsome]
  by_cases h : -lim 30 ≤ n ∧ n ≤ lim 30
  · rw [wordOf_yes (n := n) (k := 30) (by decide) (by decide) h.1 h.2, if_pos rfl, if_pos h, impl_cut_f k _ e hk (by rw [length_word]; decide) (trits_word _ _) h0 h1, bsome, show (30 : Int).toNat = 30 from rfl, val_word 30 n h.1 h.2]
  · have e0 : wordOf n 30 = ([], false) := if_neg (fun hh => h hh.2.2)
    rw [e0, if_neg h]
    rfl
theorem impl_FloatOf_f (k : Nat) (n e : Int) (hk : 2000300 ≤ k) : impl_FloatOf.f k n e = some (floatOf n e) := by
  unfold impl_FloatOf.f floatOf
  by_cases h0 : e < -100
  · rw [if_pos h0, if_neg (by omega)]
  · rw [if_neg h0]
    by_cases h1 : e > 100
    · rw [if_pos h1, if_neg (by omega)]
    · rw [if_neg h1, impl_floated_f k n e hk (by omega) (by omega), bsome]
      by_cases h : -lim 30 ≤ n ∧ n ≤ lim 30
      · rw [if_pos h, if_pos (by omega)]
      · rw [if_neg h, if_neg (by omega)]
/-- More rounds tell the same. -/
theorem up_of {α : Type} (F : Nat → Option α) (hm : ∀ k, LeO (F k) (F (k + 1))) (r : α) (n : Nat) (h : F n = some r) : ∀ k, n ≤ k → F k = some r := by
  intro k hk
  induction k with
  | zero => have : n = 0 := by omega
            subst this; exact h
  | succ k ih =>
    by_cases c : n = k + 1
    · rw [← c]; exact h
    · exact hm k r (ih (by omega))
/-- All lists of n trits. -/
def tritsL : Nat → List (List Int)
  | 0 => [[]]
  | n + 1 => (tritsL n).flatMap fun w => [(-1) :: w, 0 :: w, 1 :: w]
theorem mem_tritsL : ∀ (n : Nat) (l : List Int), l.length = n → Trits l → l ∈ tritsL n
  | 0, l, h, _ => by cases l with
    | nil => simp [tritsL]
    | cons a r => simp at h
  | n + 1, l, h, t => by
    cases l with
    | nil => simp at h
    | cons a r =>
      have ht : Trit a := t a (by simp)
      have ih := mem_tritsL n r (by simpa using h) (fun x hx => t x (by simp [hx]))
      simp only [tritsL, List.mem_flatMap]
      refine ⟨r, ih, ?_⟩
      rcases (show a = -1 ∨ a = 0 ∨ a = 1 by unfold Trit at ht; omega) with rfl | rfl | rfl <;> simp
/-- A trit's letter, and a word's text: its highest trit first. -/
def chT (t : Int) : UInt8 := if t = 1 then 43 else if t = 0 then 48 else 45
def txtW (l : List Int) : List UInt8 := (l.reverse).map chT
def sameT (o : Option ByteArray) (x : List UInt8) : Bool := match o with
  | some b => decide (b.data.toList = x)
  | none => false
theorem sameT_eq {o : Option ByteArray} {x : List UInt8} (h : sameT o x = true) : o = some ⟨x.toArray⟩ := by
  unfold sameT at h
  cases o with
  | none => simp at h
  | some b => simp only [decide_eq_true_eq] at h; subst h; cases b; simp
theorem txtW_len (l : List Int) : (txtW l).length = l.length := by simp [txtW]
theorem words_impl : (tritsL 6).all (fun l => sameT (impl_FormatWord.f 40 l) (txtW l)) = true := by decide +kernel
theorem impl_FormatWord_f (k : Nat) (l : List Int) (hk : 40 ≤ k) (hl : l.length = 6) (ht : Trits l) : impl_FormatWord.f k l = some ⟨(txtW l).toArray⟩ :=
  up_of (fun k => impl_FormatWord.f k l) (impl_FormatWord.mono l) _ 40 (sameT_eq (List.all_eq_true.mp words_impl l (mem_tritsL 6 l hl ht))) k hk
/-- The numeral of a number of at most two digits. -/
def ddS (u : Nat) : List UInt8 := if u < 10 then [UInt8.ofNat (48 + u)] else [UInt8.ofNat (48 + u / 10), UInt8.ofNat (48 + u % 10)]
def numS (e : Int) : List UInt8 := if e < 0 then 45 :: ddS e.natAbs else ddS e.toNat
theorem decDigits_ddS (u : Nat) (h : u < 100) : Lib.decDigits u = ddS u := by
  rw [Lib.decDigits]
  unfold ddS
  by_cases c : u < 10
  · rw [dif_pos c, if_pos c]
  · rw [dif_neg c, if_neg c, Lib.decDigits, dif_pos (by omega)]; rfl
theorem itoa_numS (e : Int) (h0 : -99 ≤ e) (h1 : e ≤ 99) : Lib.itoa e = numS e := by
  unfold Lib.itoa numS
  by_cases c : e < 0
  · rw [if_pos c, if_pos c, decDigits_ddS _ (by omega)]
  · rw [if_neg c, if_neg c, decDigits_ddS _ (by omega)]
theorem numS_len (e : Int) : 1 ≤ (numS e).length ∧ (numS e).length ≤ 3 := by
  have h : ∀ u, 1 ≤ (ddS u).length ∧ (ddS u).length ≤ 2 := fun u => by unfold ddS; split <;> simp
  unfold numS
  split
  · have := h e.natAbs; simp only [List.length_cons]; omega
  · have := h e.toNat; omega
/-- The numbers from -20 to 20. -/
def expsL : List Int := (List.range 41).map fun i : Nat => (i : Int) - 20
theorem mem_expsL (e : Int) (h0 : -20 ≤ e) (h1 : e ≤ 20) : e ∈ expsL := by
  unfold expsL
  rw [List.mem_map]
  exact ⟨(e + 20).toNat, List.mem_range.mpr (by omega), by omega⟩
/-- The text of a floating number. -/
def txtF (l : List Int) (e : Int) : ByteArray := ⟨(txtW l ++ 120 :: numS e).toArray⟩
theorem txtF_join (l : List Int) (e : Int) : ((⟨(txtW l).toArray⟩ : ByteArray) ++ (⟨#[120]⟩ : ByteArray)) ++ (⟨(numS e).toArray⟩ : ByteArray) = txtF l e := by
  apply ByteArray.ext
  unfold txtF
  simp
theorem sizeW (l : List UInt8) : (⟨l.toArray⟩ : ByteArray).size = l.length := by simp [ByteArray.size]
theorem impl_FormatFloat_f (k : Nat) (l : List Int) (e : Int) (hk : 2000001 ≤ k) (hl : l.length ≤ 2000000) : impl_FormatFloat.f k l e = some (if Fl l e then txtF l e else ⟨#[]⟩) := by
  unfold impl_FormatFloat.f
  rw [impl_IsFloat_f k l e hk hl, bsome]
  by_cases h : Fl l e
  · have hn := numS_len e
    have h2 := h.2.2.1
    have h3 := h.2.2.2.1
    rw [if_pos h, if_pos (by simpa using h), impl_FormatWord_f k l (by omega) h.1 h.2.1, bsome, sizeW, txtW_len, h.1, if_pos (by omega)]
    unfold strconv_Itoa.f
    rw [if_pos (by omega), bsome, itoa_numS e (by omega) (by omega), if_pos, txtF_join]
    rw [ByteArray.size_append, sizeW, sizeW, sizeW, txtW_len, h.1]
    show 6 + 1 + _ ≤ _
    omega
  · rw [if_neg h, if_neg (by simpa using h)]
/-- The letters of the trits. -/
def goodC (c : UInt8) : Prop := c = 43 ∨ c = 48 ∨ c = 45
def trS (c : UInt8) : Int := if c = 45 then -1 else if c = 48 then 0 else if c = 43 then 1 else 2
theorem goodC_of {c : UInt8} (h : Trit (trS c)) : goodC c ∧ chT (trS c) = c := by
  unfold trS goodC at *
  by_cases h1 : c = 45
  · subst h1; exact ⟨by simp, by decide⟩
  by_cases h2 : c = 48
  · subst h2; exact ⟨by simp, by decide⟩
  by_cases h3 : c = 43
  · subst h3; exact ⟨by simp, by decide⟩
  rw [if_neg h1, if_neg h2, if_neg h3] at h
  exact absurd h (by decide)
theorem trS_good {c : UInt8} (h : goodC c) : Trit (trS c) := by
  rcases h with rfl | rfl | rfl <;> decide
theorem lenS (s : ByteArray) : s.data.toList.length = s.size := by rw [Array.length_toList]; rfl
theorem bt_list (s : ByteArray) (i : Nat) (h : i < s.size) : bt s (i : Int) = ((s.data.toList[i]'(by rw [lenS]; exact h)).toNat : Int) := by
  have := bt_at s (i : Int) (by simpa using h)
  rw [← this]
  simp [ByteArray.getElem_eq_getElem_data]
theorem byte_eq {c : UInt8} {n : Nat} (hn : n < 256) : ((c.toNat : Int) = (n : Int)) ↔ c = UInt8.ofNat n := by
  constructor
  · intro h
    have h2 : c.toNat = n := by omega
    rw [← h2]; simp
  · rintro rfl
    simp [Nat.mod_eq_of_lt hn]
/-- Six good letters are the text of a word. -/
theorem good_txt (l : List UInt8) (hl : l.length = 6) (h : ∀ c ∈ l, goodC c) : ∃ w, w ∈ tritsL 6 ∧ w.length = 6 ∧ l = txtW w := by
  refine ⟨(l.map trS).reverse, mem_tritsL 6 _ (by simpa using hl) ?_, by simpa using hl, ?_⟩
  · intro a ha
    rw [List.mem_reverse, List.mem_map] at ha
    obtain ⟨c, hc, rfl⟩ := ha
    exact trS_good (h c hc)
  · unfold txtW
    rw [List.reverse_reverse, List.map_map]
    conv => lhs; rw [← List.map_id l]
    apply List.map_congr_left
    intro c hc
    exact ((goodC_of (trS_good (h c hc))).2).symm
theorem words_read : (tritsL 6).all (fun l => decide (spec_ParseWord.f 40 ⟨(txtW l).toArray⟩ = some (l, true))) = true := by decide +kernel
theorem spec_ParseWord_txt (k : Nat) (l : List Int) (hk : 40 ≤ k) (hl : l.length = 6) (ht : Trits l) : spec_ParseWord.f k ⟨(txtW l).toArray⟩ = some (l, true) :=
  up_of (fun k => spec_ParseWord.f k ⟨(txtW l).toArray⟩) (spec_ParseWord.mono _) _ 40 (of_decide_eq_true (List.all_eq_true.mp words_read l (mem_tritsL 6 l hl ht))) k hk
theorem txtW_inj {l m : List Int} (hl : l.length = 6) (ht : Trits l) (hm : m.length = 6) (tm : Trits m) (h : txtW l = txtW m) : l = m := by
  have a := spec_ParseWord_txt 40 l (Nat.le_refl _) hl ht
  rw [h, spec_ParseWord_txt 40 m (Nat.le_refl _) hm tm] at a
  exact (congrArg (·.1) (Option.some.inj a)).symm
theorem exps_read : expsL.all (fun e => decide (spec_l5Read.f 40 ⟨(numS e).toArray⟩ = some (e, true))) = true := by decide +kernel
theorem spec_l5Read_num (k : Nat) (e : Int) (hk : 40 ≤ k) (h0 : -20 ≤ e) (h1 : e ≤ 20) : spec_l5Read.f k ⟨(numS e).toArray⟩ = some (e, true) :=
  up_of (fun k => spec_l5Read.f k ⟨(numS e).toArray⟩) (spec_l5Read.mono _) _ 40 (of_decide_eq_true (List.all_eq_true.mp exps_read e (mem_expsL e h0 h1))) k hk
theorem numS_inj {e d : Int} (h0 : -20 ≤ e) (h1 : e ≤ 20) (h2 : -20 ≤ d) (h3 : d ≤ 20) (h : numS e = numS d) : e = d := by
  have a := spec_l5Read_num 40 e (Nat.le_refl _) h0 h1
  rw [h, spec_l5Read_num 40 d (Nat.le_refl _) h2 h3] at a
  exact (congrArg (·.1) (Option.some.inj a)).symm
theorem txtF_inj {l m : List Int} {e d : Int} (h : Fl l e) (g : Fl m d) (q : txtF l e = txtF m d) : l = m ∧ e = d := by
  have q2 : txtW l ++ 120 :: numS e = txtW m ++ 120 :: numS d := by
    have := congrArg (fun s : ByteArray => s.data.toList) q
    simpa [txtF] using this
  obtain ⟨a, b⟩ := List.append_inj q2 (by rw [txtW_len, txtW_len, h.1, g.1])
  exact ⟨txtW_inj h.1 h.2.1 g.1 g.2.1 a, numS_inj h.2.2.1 h.2.2.2.1 g.2.2.1 g.2.2.2.1 (List.cons.inj b).2⟩
/-- What a text is read as: the number of which it is the text, and nothing otherwise. -/
def PFl (s : ByteArray) (r : List Int × Int × Bool) : Prop := (∃ l e, Fl l e ∧ s = txtF l e ∧ r = (l, e, true)) ∨ ((∀ l e, Fl l e → s ≠ txtF l e) ∧ r = ([], 0, false))
theorem PFl_one {s : ByteArray} {a b : List Int × Int × Bool} (h : PFl s a) (g : PFl s b) : a = b := by
  rcases h with ⟨l, e, f, hs, rfl⟩ | ⟨n, rfl⟩
  · rcases g with ⟨m, d, f2, hs2, rfl⟩ | ⟨n2, rfl⟩
    · obtain ⟨rfl, rfl⟩ := txtF_inj f f2 (hs.symm.trans hs2); rfl
    · exact absurd hs (n2 l e f)
  · rcases g with ⟨m, d, f2, hs2, rfl⟩ | ⟨n2, rfl⟩
    · exact absurd hs2 (n m d f2)
    · rfl
theorem txtF_size (l : List Int) (e : Int) (h : Fl l e) : (txtF l e).size = 7 + (numS e).length := by
  unfold txtF
  rw [sizeW, List.length_append, txtW_len, h.1, List.length_cons]; omega
theorem eqS {s : ByteArray} {l : List UInt8} (h : s.data.toList = l) : s = ⟨l.toArray⟩ := by
  apply ByteArray.ext; rw [← h]
theorem impl_tritsOf_le (k : Nat) (x0 : ByteArray) (x4 : List Int) (x8 x9 : Int) : impl_tritsOf.l0 (k + 1) x0 x4 x8 x9 = if x9 < x8 then (if 0 ≤ x9 then (if x9 < (x0.size : Int) then (if (bt x0 x9) = 45 then (if x4.length < 17592186044416 then (impl_tritsOf.l0 k x0 (x4 ++ [(-1)]) x8 (wrap64 (x9 + 1))) else (none)) else (if (bt x0 x9) = 48 then (if x4.length < 17592186044416 then (impl_tritsOf.l0 k x0 (x4 ++ [0]) x8 (wrap64 (x9 + 1))) else (none)) else (if (bt x0 x9) = 43 then (if x4.length < 17592186044416 then (impl_tritsOf.l0 k x0 (x4 ++ [1]) x8 (wrap64 (x9 + 1))) else (none)) else (some (([] : List Int), false))))) else (none)) else (none)) else (some (x4, true)) := by rw [impl_tritsOf.l0]
theorem impl_tritsOf_l0 (s : ByteArray) (hs : s.size ≤ 30) : ∀ (d k i : Nat) (acc : List Int), i + d = s.size → acc.length = i → d < k →
    ∃ w b, impl_tritsOf.l0 k s acc (s.size : Int) (i : Int) = some (w, b) ∧ w.length ≤ s.size ∧ (b = true → w.length = s.size ∧ ∀ c ∈ s.data.toList.drop i, goodC c)
  | 0, k, i, acc, hd, ha, hk => by
    obtain ⟨k, rfl⟩ : ∃ m, k = m + 1 := ⟨k - 1, by omega⟩
    rw [impl_tritsOf_le, if_neg (by omega)]
    refine ⟨acc, true, rfl, by omega, fun _ => ⟨by omega, fun c hc => ?_⟩⟩
    rw [List.drop_of_length_le (by rw [lenS]; omega)] at hc
    cases hc
  | d + 1, k, i, acc, hd, ha, hk => by
    obtain ⟨k, rfl⟩ : ∃ m, k = m + 1 := ⟨k - 1, by omega⟩
    have hb := bt_list s i (by omega)
    have hdr : s.data.toList.drop i = s.data.toList[i]'(by rw [lenS]; omega) :: s.data.toList.drop (i + 1) := List.drop_eq_getElem_cons (by rw [lenS]; omega)
    generalize s.data.toList[i]'(by rw [lenS]; omega) = c at hb hdr
    have go : ∀ t, goodC c → ∃ w b, impl_tritsOf.l0 k s (acc ++ [t]) (s.size : Int) (wrap64 ((i : Int) + 1)) = some (w, b) ∧ w.length ≤ s.size ∧ (b = true → w.length = s.size ∧ ∀ c ∈ s.data.toList.drop i, goodC c) := fun t g => by
      rw [w64 _ (by omega) (by omega)]
      obtain ⟨w, b, e, wl, h⟩ := impl_tritsOf_l0 s hs d k (i + 1) (acc ++ [t]) (by omega) (by simp; omega) (by omega)
      refine ⟨w, b, e, wl, fun hb => ⟨(h hb).1, fun x hx => ?_⟩⟩
      rw [hdr] at hx
      rcases List.mem_cons.mp hx with rfl | hx
      · exact g
      · exact (h hb).2 x hx
    rw [impl_tritsOf_le, if_pos (by omega), if_pos (by omega), if_pos (by omega), hb]
    by_cases c1 : (c.toNat : Int) = 45
    · rw [if_pos c1, if_pos (by omega)]; exact go _ (.inr (.inr ((byte_eq (n := 45) (by omega)).mp c1)))
    rw [if_neg c1]
    by_cases c2 : (c.toNat : Int) = 48
    · rw [if_pos c2, if_pos (by omega)]; exact go _ (.inr (.inl ((byte_eq (n := 48) (by omega)).mp c2)))
    rw [if_neg c2]
    by_cases c3 : (c.toNat : Int) = 43
    · rw [if_pos c3, if_pos (by omega)]; exact go _ (.inl ((byte_eq (n := 43) (by omega)).mp c3))
    rw [if_neg c3]
    exact ⟨[], false, rfl, by simp, fun h => by cases h⟩
theorem slices_Reverse_le (k : Nat) (x0 : List Int) (x2 x3 : Int) : slices_Reverse_int_int.l0 (k + 1) x0 x2 x3 = if x2 < x3 then (if 0 ≤ x3 then (if x3 < (x0.length : Int) then (if 0 ≤ x2 then (if x2 < (x0.length : Int) then (slices_Reverse_int_int.l0 k ((x0.set (x2 : Int).toNat (rd x0 x3)).set (x3 : Int).toNat (rd x0 x2)) (wrap64 (x2 + 1)) (wrap64 (x3 - 1))) else (none)) else (none)) else (none)) else (none)) else (some x0) := by rw [slices_Reverse_int_int.l0]
theorem slices_Reverse_l0 : ∀ (d k : Nat) (x : List Int) (i j : Int), x.length ≤ 1000 → 0 ≤ i → i ≤ 1000 → -1 ≤ j → j < x.length → j - i < d → d < k → ∃ r, slices_Reverse_int_int.l0 k x i j = some r ∧ r.length = x.length
  | 0, k, x, i, j, hx, h0, h4, h1, h2, hd, hk => by
    obtain ⟨k, rfl⟩ : ∃ m, k = m + 1 := ⟨k - 1, by omega⟩
    rw [slices_Reverse_le, if_neg (by omega)]
    exact ⟨x, rfl, rfl⟩
  | d + 1, k, x, i, j, hx, h0, h4, h1, h2, hd, hk => by
    obtain ⟨k, rfl⟩ : ∃ m, k = m + 1 := ⟨k - 1, by omega⟩
    rw [slices_Reverse_le]
    by_cases c : i < j
    · rw [if_pos c, if_pos (by omega), if_pos (by omega), if_pos (by omega), if_pos (by omega), w64 _ (by omega) (by omega), w64 _ (by omega) (by omega)]
      obtain ⟨r, e, h⟩ := slices_Reverse_l0 d k ((x.set i.toNat (rd x j)).set j.toNat (rd x i)) (i + 1) (j - 1) (by simp; omega) (by omega) (by omega) (by omega) (by simp; omega) (by omega) (by omega)
      exact ⟨r, e, by simpa using h⟩
    · rw [if_neg c]; exact ⟨x, rfl, rfl⟩
theorem impl_ParseWord_f (s : ByteArray) (k : Nat) (hk : 3000000 ≤ k) : ∃ w b, impl_ParseWord.f k s = some (w, b) ∧ w.length ≤ 30 ∧ (b = true → w.length = s.size ∧ ∀ c ∈ s.data.toList, goodC c) := by
  unfold impl_ParseWord.f
  by_cases c1 : (s.size : Int) > 30
  · rw [if_pos c1]; exact ⟨[], false, rfl, by simp, fun h => by cases h⟩
  rw [if_neg c1]
  unfold impl_tritsOf.f
  obtain ⟨w, b, e, wl, h⟩ := impl_tritsOf_l0 s (by omega) s.size k 0 [] (by omega) (by simp) (by omega)
  rw [show ((0 : Nat) : Int) = 0 from rfl] at e
  rw [e, bsome]
  cases b with
  | false => rw [if_neg (by simp)]; exact ⟨[], false, rfl, by simp, fun h => by cases h⟩
  | true =>
    obtain ⟨h1, h2⟩ := h rfl
    rw [if_pos rfl]
    by_cases c2 : (w.length : Int) < 1
    · rw [if_pos c2]; exact ⟨[], false, rfl, by simp, fun h => by cases h⟩
    rw [if_neg c2]
    unfold impl_backwards.f slices_Clone_int_int.f slices_Reverse_int_int.f
    dsimp only
    rw [if_pos (by omega), bsome, w64 _ (by omega) (by omega)]
    obtain ⟨r, e2, hr⟩ := slices_Reverse_l0 w.length k w 0 ((w.length : Int) - 1) (by omega) (by omega) (by omega) (by omega) (by omega) (by omega) (by omega)
    rw [e2, bsome, bsome]
    exact ⟨r, true, rfl, by omega, fun _ => ⟨by omega, by simpa using h2⟩⟩
theorem words_readI : (tritsL 6).all (fun l => decide (impl_ParseWord.f 40 ⟨(txtW l).toArray⟩ = some (l, true))) = true := by decide +kernel
theorem impl_ParseWord_txt (k : Nat) (l : List Int) (hk : 40 ≤ k) (hl : l.length = 6) (ht : Trits l) : impl_ParseWord.f k ⟨(txtW l).toArray⟩ = some (l, true) :=
  up_of (fun k => impl_ParseWord.f k ⟨(txtW l).toArray⟩) (impl_ParseWord.mono _) _ 40 (of_decide_eq_true (List.all_eq_true.mp words_readI l (mem_tritsL 6 l hl ht))) k hk
theorem exps_atoi : expsL.all (fun e => decide (Lib.atoiAll (numS e) = .ok e)) = true := by decide +kernel
theorem numberV_num (e : Int) (h0 : -20 ≤ e) (h1 : e ≤ 20) : numberV ⟨(numS e).toArray⟩ = (e, true) := by
  unfold numberV
  have h := of_decide_eq_true (List.all_eq_true.mp exps_atoi e (mem_expsL e h0 h1))
  have e2 : (⟨(numS e).toArray⟩ : ByteArray).data.toList = numS e := by simp
  rw [e2, h]
  show (e, decide ((⟨(Lib.itoa e).toArray⟩ : ByteArray) = ⟨(numS e).toArray⟩)) = _
  rw [itoa_numS e (by omega) (by omega)]
  simp
theorem numberV_true {s : ByteArray} (h : (numberV s).2 = true) (h0 : -20 ≤ (numberV s).1) (h1 : (numberV s).1 ≤ 20) : s.data.toList = numS (numberV s).1 := by
  rcases numberV_cases s with ⟨v, _, e⟩ | ⟨n, _, e⟩
  · rw [e] at h h0 h1 ⊢
    have h2 : (⟨(Lib.itoa v).toArray⟩ : ByteArray) = s := of_decide_eq_true h
    rw [← h2, itoa_numS v (by simp only at h0; omega) (by simp only at h1; omega)]
  · rw [e] at h; cases h
theorem index_x : ∀ l : List UInt8, (Lib.index l [120] = -1 ∧ (120 : UInt8) ∉ l) ∨ ∃ a b, l = a ++ 120 :: b ∧ (120 : UInt8) ∉ a ∧ Lib.index l [120] = a.length
  | [] => .inl ⟨rfl, by simp⟩
  | x :: l => by
    by_cases c : x = 120
    · subst c; exact .inr ⟨[], l, rfl, by simp, by simp [Lib.index]⟩
    · have c2 : ¬ (120 : UInt8) = x := fun q => c q.symm
      rcases index_x l with ⟨h, n⟩ | ⟨a, b, e, n, h⟩
      · refine .inl ⟨?_, by simp [c2, n]⟩
        unfold Lib.index
        rw [if_neg (by simp [c2]), h]
        try rfl
      · refine .inr ⟨x :: a, b, by rw [e]; rfl, by simp [c2, n], ?_⟩
        unfold Lib.index
        rw [if_neg (by simp [c2]), h, if_neg (by simp <;> omega)]
        simp
theorem cut_cases (l : List UInt8) : (Lib.cut l [120] = (l, [], false) ∧ (120 : UInt8) ∉ l) ∨ ∃ a b, l = a ++ 120 :: b ∧ (120 : UInt8) ∉ a ∧ Lib.cut l [120] = (a, b, true) := by
  rcases index_x l with ⟨h, n⟩ | ⟨a, b, e, n, h⟩
  · exact .inl ⟨by unfold Lib.cut; rw [h, if_neg (by omega)], n⟩
  · refine .inr ⟨a, b, e, n, ?_⟩
    unfold Lib.cut
    rw [h, if_pos (by omega), e]
    simp
theorem impl_ParseFloat_f (s : ByteArray) (k : Nat) (hk : 3000000 ≤ k) (hs : s.size ≤ 1048576) : ∃ r, impl_ParseFloat.f k s = some r ∧ PFl s r := by
  unfold impl_ParseFloat.f strings_Cut.f
  have no : (∀ l e, Fl l e → s ≠ txtF l e) → ∃ r, (some (([] : List Int), (0 : Int), false)) = some r ∧ PFl s r := fun h => ⟨_, rfl, .inr ⟨h, rfl⟩⟩
  have e120 : (⟨#[120]⟩ : ByteArray).data.toList = [120] := rfl
  have hl : s.data.toList.length = s.size := lenS s
  have inX : ∀ l e, s = txtF l e → s.data.toList = txtW l ++ 120 :: numS e := fun l e q => by rw [q]; simp [txtF]
  have noX : ∀ l, Trits l → (120 : UInt8) ∉ txtW l := fun l ht hm => by
    unfold txtW at hm
    obtain ⟨t, _, q⟩ := List.mem_map.mp hm
    unfold chT at q
    split at q
    · exact absurd q (by decide)
    · split at q <;> exact absurd q (by decide)
  have one : ∀ {a b c d : List UInt8}, a ++ 120 :: b = c ++ 120 :: d → (120 : UInt8) ∉ a → (120 : UInt8) ∉ c → a = c ∧ b = d := by
    intro a
    induction a with
    | nil =>
      intro b c d h n1 n2
      cases c with
      | nil => exact ⟨rfl, (List.cons.inj h).2⟩
      | cons x c => exact absurd (by rw [(List.cons.inj h).1]; simp) n2
    | cons y a ih =>
      intro b c d h n1 n2
      cases c with
      | nil => exact absurd (by rw [(List.cons.inj h).1]; simp) n1
      | cons x c =>
        obtain ⟨h1, h2⟩ := List.cons.inj h
        obtain ⟨h3, h4⟩ := ih h2 (fun q => n1 (List.mem_cons_of_mem _ q)) (fun q => n2 (List.mem_cons_of_mem _ q))
        exact ⟨by rw [h1, h3], h4⟩
  rw [if_pos hs, bsome, e120]
  rcases cut_cases s.data.toList with ⟨hc, n⟩ | ⟨a, b, hab, n, hc⟩
  · rw [hc]
    obtain ⟨w, c, rw1, wl, wb⟩ := impl_ParseWord_f ⟨s.data.toList.toArray⟩ k hk
    rw [rw1, bsome]
    unfold impl_number.f
    rw [if_pos (by rw [sizeW]; simp), bsome, if_neg (by simp)]
    exact no fun l e h q => n (by rw [inX l e q]; simp)
  · rw [hc]
    have hbl : b.length ≤ 1048576 := by have := congrArg List.length hab; simp at this; omega
    obtain ⟨w, c, rw1, wl, wb⟩ := impl_ParseWord_f ⟨a.toArray⟩ k hk
    rw [rw1, bsome]
    unfold impl_number.f
    rw [if_pos (by rw [sizeW]; exact hbl), bsome, if_pos rfl]
    have bad : ∀ l e, Fl l e → s = txtF l e → w = l ∧ c = true ∧ numberV ⟨b.toArray⟩ = (e, true) := fun l e h q => by
      obtain ⟨q1, q2⟩ := one (hab.symm.trans (inX l e q)) n (noX l h.2.1)
      rw [q1, impl_ParseWord_txt k l (by omega) h.1 h.2.1] at rw1
      obtain ⟨x1, x2⟩ := Prod.mk.inj (Option.some.inj rw1)
      exact ⟨x1.symm, x2.symm, by rw [q2]; exact numberV_num e h.2.2.1 h.2.2.2.1⟩
    cases c with
    | false => rw [if_neg (by simp)]; exact no fun l e h q => by cases (bad l e h q).2.1
    | true =>
      rw [if_pos rfl]
      by_cases c2 : (numberV ⟨b.toArray⟩).2 = true
      · rw [if_pos c2, impl_IsFloat_f k w _ (by omega) (by omega), bsome]
        by_cases f : Fl w (numberV ⟨b.toArray⟩).1
        · rw [if_pos (by simpa using f)]
          refine ⟨_, rfl, .inl ⟨w, _, f, ?_, rfl⟩⟩
          obtain ⟨g1, g2⟩ := wb rfl
          rw [sizeW] at g1
          obtain ⟨w2, hw2, hw3, hw4⟩ := good_txt a (by rw [← g1]; exact f.1) (by simpa using g2)
          have ht : Trits w2 := by
            have : (tritsL 6).all (fun l => decide (Trits l)) = true := by decide +kernel
            exact of_decide_eq_true (List.all_eq_true.mp this w2 hw2)
          rw [hw4, impl_ParseWord_txt k w2 (by omega) hw3 ht] at rw1
          have hw : w2 = w := (Prod.mk.inj (Option.some.inj rw1)).1
          have hv := numberV_true c2 f.2.2.1 f.2.2.2.1
          apply eqS
          rw [hab, hw4, hw, ← hv]
        · rw [if_neg (by simpa using f)]
          exact no fun l e h q => by
            obtain ⟨rfl, _, q3⟩ := bad l e h q
            rw [q3] at f
            exact f h
      · rw [if_neg c2]
        exact no fun l e h q => by
          have := (bad l e h q).2.2
          rw [this] at c2
          exact c2 rfl
def lenOf (n : Int) : Int := if n = 0 then 1 else if len3 n ≤ 30 then (len3 n : Int) else 0
theorem impl_LengthOf_l0 (n : Int) : ∀ (d k i : Nat), i + d = 31 → d + 40 < k → 1 ≤ i → (∀ j, j < i → j = 0 ∨ ¬(-lim j ≤ n ∧ n ≤ lim j)) → impl_LengthOf.l0 k n (i : Int) = some (lenOf n) := by
  intro d
  induction d with
  | zero =>
    intro k i hi hk h1 hj
    obtain ⟨k, rfl⟩ : ∃ m, k = m + 1 := ⟨k - 1, by omega⟩
    rw [impl_LengthOf.l0, if_neg (by omega)]
    have h30 := hj 30 (by omega)
    have hb := len3_bd n
    unfold lenOf
    rw [if_neg, if_neg]
    · intro hle
      have := lim_mono hle
      rcases h30 with h | h
      · omega
      · exact h (by omega)
    · intro hz
      rcases h30 with h | h
      · omega
      · exact h (by subst hz; have := lim_nonneg 30; omega)
  | succ d ih =>
    intro k i hi hk h1 hj
    obtain ⟨k, rfl⟩ : ∃ m, k = m + 1 := ⟨k - 1, by omega⟩
    have hm := lim_mono (show i ≤ 30 by omega)
    have hn := lim_nonneg i
    rw [impl_LengthOf.l0, if_pos (by omega), impl_fits_f k n (i : Int) (by omega) (by omega) (by omega), bsome, Int.toNat_natCast]
    by_cases c : -lim i ≤ n ∧ n ≤ lim i
    · rw [if_pos (by simpa using c)]
      unfold lenOf
      by_cases hz : n = 0
      · rw [if_pos hz]
        have hi1 : i = 1 := by
          rcases Nat.lt_or_ge 1 i with h | h
          · rcases hj 1 h with h2 | h2
            · omega
            · exact absurd (by subst hz; decide) h2
          · omega
        subst hi1; rfl
      · have hlen : len3 n = i := by
          obtain ⟨m, rfl⟩ : ∃ m, i = m + 1 := ⟨i - 1, by omega⟩
          refine len3_of c.1 c.2 ?_
          rcases Nat.eq_zero_or_pos m with h | h
          · subst h; simp only [lim]; omega
          · rcases hj m (by omega) with h2 | h2
            · omega
            · omega
        rw [if_neg hz, hlen, if_pos (by omega)]
    · rw [if_neg (by simpa using c), w64 _ (by omega) (by omega), show (i : Int) + 1 = ((i + 1 : Nat) : Int) by omega]
      refine ih k (i + 1) (by omega) (by omega) (by omega) (fun j hj2 => ?_)
      rcases Nat.lt_or_ge j i with h | h
      · exact hj j h
      · obtain rfl : j = i := by omega
        exact .inr c
theorem impl_LengthOf_f (k : Nat) (n : Int) (hk : 200 ≤ k) : impl_LengthOf.f k n = some (lenOf n) := by
  unfold impl_LengthOf.f
  exact impl_LengthOf_l0 n 30 k 1 (by omega) (by omega) (by omega) (fun j hj => .inl (by omega))
end FnFloatsParts
open FnFloatsParts
attribute [local congr] bind_left

theorem FnFloats : laws_FnFloats.Pure := by
  intro l0 hl _ hwf
  obtain ⟨K, hK⟩ : ∃ K, 100000000 ≤ K := ⟨_, Nat.le_refl _⟩
  refine ⟨K + 4, ?_⟩
  unfold laws_FnFloats.f
  by_cases h : (l0.length : Int) > 1048576
  · rw [if_pos h]
  rw [if_neg h]
  obtain ⟨w, ew, hw, lw⟩ := spec_MakeWord_f (K + 4) l0 25 (by omega) (by omega) (by omega) (by omega)
  rw [ew, bsome, impl_ValueOf_f _ w (by omega) (by have := hw.2.1; omega), if_pos hw, bsome]
  have bd := val_bd w hw.2.2
  have lm := lim_mono (show w.length ≤ 25 by omega)
  obtain ⟨n, hn⟩ : ∃ n, val w = n := ⟨_, rfl⟩
  rw [hn] at bd ⊢
  have l25 : lim 25 = 423644304721 := by decide
  have l30 : lim 30 = 102945566047324 := by decide
  have h0 : -lim 25 ≤ n := by omega
  have h1 : n ≤ lim 25 := by omega
  clear bd lm hn lw hw ew
  have ln := len3_le 25 n h0 h1
  rw [impl_FloatOf_f _ n 0 (by omega), bsome]
  have ef : floatOf n 0 = flo n 0 := by unfold floatOf; rw [if_pos ⟨by omega, by omega, by omega, by omega⟩]
  rw [ef]
  -- the number that is made
  obtain ⟨d, e, eq, hF, he, hneg, hpos⟩ : ∃ d e, flo n 0 = (d, e, true) ∧ Fl d e ∧ (n ≠ 0 → e = (len3 n : Int) - 6) ∧ (e < 0 → val d = n * pow3 (-e).toNat) ∧
      (0 ≤ e → ∃ r, n = r + val d * pow3 e.toNat ∧ -lim e.toNat ≤ r ∧ r ≤ lim e.toNat ∧ (n = 0 ∨ len3 n ≤ 6 → r = 0)) := by
    by_cases hz : n = 0
    · subst hz
      refine ⟨List.replicate 6 0, 0, rfl, flo_Fl (v := 0) (e := 0) rfl, fun h => absurd rfl h, fun h => by omega, fun _ => ⟨0, by decide, by decide, by decide, fun _ => rfl⟩⟩
    · have q : flo n 0 = (digs n, (len3 n : Int) - 6, true) := by
        unfold flo
        rw [if_neg hz, if_pos (by omega), show (0 : Int) + len3 n - 6 = (len3 n : Int) - 6 by omega]
      refine ⟨_, _, q, ?_, fun _ => rfl, fun hn => ?_, fun hp => ?_⟩
      · have := flo_Fl (v := n) (e := 0) (by rw [q])
        rw [q] at this
        exact this
      · rw [digs_small n (by omega), show (-((len3 n : Int) - 6)).toNat = 6 - len3 n by omega]
      · by_cases h6 : 6 < len3 n
        · obtain ⟨r, a, b, c⟩ := digs_big n h6
          rw [show ((len3 n : Int) - 6).toNat = len3 n - 6 by omega]
          exact ⟨r, a, b, c, fun h => by rcases h with h | h; exact absurd h hz; omega⟩
        · have e6 : len3 n = 6 := by omega
          rw [show ((len3 n : Int) - 6).toNat = 0 by omega]
          refine ⟨0, ?_, by decide, by decide, fun _ => rfl⟩
          have := digs_small n (by omega)
          rw [e6] at this
          rw [this]
          show n = 0 + n * pow3 (6 - 6) * pow3 0
          simp [pow3]
  rw [eq]
  dsimp only
  have hl6 : d.length = 6 := hF.1
  rw [if_pos rfl, spec_IsFloat_f _ d e (by omega) (by omega), bsome, decide_eq_true hF]
  have hs := txtF_size d e hF
  have hs2 := numS_len e
  obtain ⟨r, er, pr⟩ := impl_ParseFloat_f (txtF d e) (K + 3) (by omega) (by omega)
  have hr : r = (d, e, true) := PFl_one pr (.inl ⟨d, e, hF, rfl, rfl⟩)
  subst hr
  show laws_FnFloats.j0 (K + 3 + 1) n false d e = some true
  rw [laws_FnFloats.j0, if_neg (by decide), impl_FormatFloat_f _ d e (by omega) (by omega), if_pos hF, bsome, er, bsome]
  dsimp only
  rw [if_pos rfl, if_pos rfl, laws_ints_f _ d d (by omega) (by omega), bsome, decide_eq_true rfl]
  show laws_FnFloats.j1 (K + 2 + 1) n false d e = some true
  have hwd : Word d := ⟨by omega, by omega, hF.2.1⟩
  have vb := val_bd d hF.2.1
  rw [hl6, show lim 6 = 364 by decide] at vb
  have hb := hF.2.2
  rw [laws_FnFloats.j1, if_neg (by decide), impl_ValueOf_f _ d (by omega) (by omega), if_pos hwd, bsome]
  by_cases hlt : e < 0
  · have q := hneg hlt
    rw [if_pos hlt, w64 (-e) (by omega) (by omega), spec_MakePower_f _ (-e) (by omega) (by omega) (by omega), bsome, ← q, w64 _ (by omega) (by omega)]
    simp
  · obtain ⟨r, hr, r0, r1, rz⟩ := hpos (by omega)
    have pl := pow3_lim e.toNat
    have ll := lim_mono (show e.toNat ≤ 25 by omega)
    have lp := lim_nonneg e.toNat
    rw [if_neg hlt, spec_MakePower_f _ e (by omega) (by omega) (by omega), bsome]
    have pv : val d * pow3 e.toNat = n - r := by omega
    rw [pv, w64 (n - r) (by omega) (by omega), w64 (n - (n - r)) (by omega) (by omega), show n - (n - r) = r by omega, laws_abs_f r (by omega) (by omega), bsome]
    have ab : abs3 r ≤ lim e.toNat := by unfold abs3; split <;> omega
    have ab0 := abs3_nonneg r
    rw [w64 (2 * abs3 r) (by omega) (by omega), if_pos (by omega), impl_LengthOf_f _ n (by omega), bsome]
    by_cases h6 : lenOf n > 6
    · rw [if_pos h6]
    · rw [if_neg h6]
      have z : r = 0 := rz (by
        by_cases hz : n = 0
        · exact .inl hz
        · right
          unfold lenOf at h6
          rw [if_neg hz, if_pos (by omega)] at h6
          omega)
      subst z
      simp

end Go.Proofs.YtffhddibgfaopaaDoor.Pure
