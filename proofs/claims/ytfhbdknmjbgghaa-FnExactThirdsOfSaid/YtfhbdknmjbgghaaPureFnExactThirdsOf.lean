/- For all numbers the program's ThirdsOf gives what the reference gives, and shares no memory; no condition. -/
import Derived.Test.YtfhbdknmjbgghaaPx7
import Derived.Test.YtfhbdknmjbgghaaGlue
namespace Go.Proofs.Ytfhbdknmjbgghaa.Pure
open Go.RowKit Go.Proofs.Ytfhbdknmjbgghaa.Tern Go.Proofs.Ytfhbdknmjbgghaa.P Go.Proofs.YtfhbdknmjbgghaaW.PrintWords Go.Proofs.YtfhbdknmjbgghaaW.PrintLast
set_option linter.unusedVariables false

namespace FnExactThirdsOfParts
theorem spec_l1In_f (x a b : Int) : spec_l1In.f x a b = some (decide (a ≤ x ∧ x ≤ b)) := by
  unfold spec_l1In.f
  split
  · rename_i h
    simp [show a ≤ x from h]
  · rename_i h
    have : ¬ (a ≤ x) := h
    simp [this]
theorem impl_power_l0 (a : Int) (ha : a ≤ 30) : ∀ (d k i : Nat), (i : Int) + d = a → d < k → impl_power.l0 k (pow3 i) a (i : Int) = some (pow3 a.toNat) := by
  intro d
  induction d with
  | zero =>
    intro k i h hk
    obtain ⟨k, rfl⟩ : ∃ m, k = m + 1 := ⟨k - 1, by omega⟩
    simp only [impl_power.l0]
    rw [if_neg (by omega), show a.toNat = i from by omega]
  | succ d ih =>
    intro k i h hk
    obtain ⟨k, rfl⟩ : ∃ m, k = m + 1 := ⟨k - 1, by omega⟩
    have h1 := pow3_pos i
    have h2 : pow3 i ≤ pow3 30 := pow3_mono (by omega)
    rw [pow3_30] at h2
    simp only [impl_power.l0]
    rw [if_pos (by omega), w64 _ (by omega) (by omega), w64 _ (by omega) (by omega)]
    have := ih k (i + 1) (by omega) (by omega)
    simp only [pow3] at this
    rw [show pow3 i * 3 = 3 * pow3 i from by omega, show (i : Int) + 1 = ((i + 1 : Nat) : Int) from by omega]
    exact this
theorem impl_power_f (k : Nat) (a : Int) (hk : 31 ≤ k) (ha : a ≤ 30) : impl_power.f k a = some (pow3 a.toNat) := by
  unfold impl_power.f
  by_cases h : 0 ≤ a
  · exact impl_power_l0 a ha a.toNat k 0 (by omega) (by omega)
  · obtain ⟨k, rfl⟩ : ∃ m, k = m + 1 := ⟨k - 1, by omega⟩
    simp only [impl_power.l0]
    rw [if_neg (by omega), show a.toNat = 0 from by omega]; rfl
theorem impl_LimitOf_f (k : Nat) (a : Int) (hk : 31 ≤ k) : impl_LimitOf.f k a = some (if 1 ≤ a ∧ a ≤ 30 then lim a.toNat else 0) := by
  unfold impl_LimitOf.f
  by_cases h1 : a < 1
  · rw [if_pos h1, if_neg (by omega)]
  · rw [if_neg h1]
    by_cases h2 : a > 30
    · rw [if_pos h2, if_neg (by omega)]
    · rw [if_neg h2, impl_power_f k a hk (by omega), if_pos (by omega)]
      have h3 := pow3_lim a.toNat
      have h4 := lim_nonneg a.toNat
      have h5 : lim a.toNat ≤ lim 30 := lim_mono (by omega)
      rw [lim30] at h5
      simp only [bsome]
      rw [w64 (pow3 _ - 1) (by omega) (by omega), h3, show 2 * lim a.toNat + 1 - 1 = 2 * lim a.toNat from by omega, Int.mul_tdiv_cancel_left _ (by omega), w64 _ (by omega) (by omega)]
theorem impl_fits_f (k : Nat) (n a : Int) (hk : 31 ≤ k) (h1 : 1 ≤ a) (h2 : a ≤ 30) : impl_fits.f k n a = some (decide (-lim a.toNat ≤ n ∧ n ≤ lim a.toNat)) := by
  unfold impl_fits.f
  have h4 := lim_nonneg a.toNat
  have h5 : lim a.toNat ≤ lim 30 := lim_mono (by omega)
  rw [lim30] at h5
  rw [impl_LimitOf_f k a hk, if_pos ⟨h1, h2⟩]
  simp only [bsome]
  rw [w64 _ (by omega) (by omega)]
  by_cases h : n ≥ -lim a.toNat
  · rw [if_pos h]; simp [show -lim a.toNat ≤ n from h]
  · rw [if_neg h]
    have : ¬ -lim a.toNat ≤ n := h
    simp [this]
theorem impl_carried_tmod (n : Int) : ∃ c, impl_carried.f (Int.tmod n 3) = some (low3 n, c) := by
  unfold impl_carried.f low3
  rcases Int.le_total 0 n with h | h
  · rw [tmod3_nonneg n h]
    split
    · rw [w64 _ (by omega) (by omega)]; exact ⟨1, by congr 2; omega⟩
    · rw [if_neg (by omega)]; exact ⟨0, by congr 2; omega⟩
  · have e2 := tmod3_nonpos n h
    rw [e2]
    split
    · omega
    · split
      · rw [w64 _ (by omega) (by omega)]; exact ⟨-1, by congr 2; omega⟩
      · exact ⟨0, by congr 2; omega⟩
theorem tdiv_low3 (n : Int) : Int.tdiv (n - low3 n) 3 = rest3 n := by
  have := low3_rest3 n
  rw [show n - low3 n = 3 * rest3 n from by omega, Int.mul_tdiv_cancel_left _ (by omega)]
theorem rest3_bd (n B : Int) (hB : 0 ≤ B) (h0 : -B ≤ n) (h1 : n ≤ B) : -B ≤ rest3 n ∧ rest3 n ≤ B := by unfold rest3; omega
theorem impl_WordOf_l0 (a : Int) (ha : a ≤ 30) : ∀ (d k i : Nat) (n : Int) (acc : List Int), (i : Int) + d = a → d < k → acc.length = i → -1000000000000000000 ≤ n → n ≤ 1000000000000000000 →
    impl_WordOf.l0 k n acc a (i : Int) = some (acc ++ word n d, true) := by
  intro d
  induction d with
  | zero =>
    intro k i n acc h hk hl h0 h1
    obtain ⟨k, rfl⟩ : ∃ m, k = m + 1 := ⟨k - 1, by omega⟩
    simp only [impl_WordOf.l0]
    rw [if_neg (by omega)]; simp [word]
  | succ d ih =>
    intro k i n acc h hk hl h0 h1
    obtain ⟨k, rfl⟩ : ∃ m, k = m + 1 := ⟨k - 1, by omega⟩
    obtain ⟨c, hc⟩ := impl_carried_tmod n
    have ht := low3_trit n
    unfold Trit at ht
    have hu := rest3_bd n 1000000000000000000 (by omega) (by omega) h1
    simp only [impl_WordOf.l0]
    rw [if_pos (by omega), hc]
    simp only [bsome]
    rw [if_pos (by omega), w64 (n - low3 n) (by omega) (by omega), tdiv_low3, w64 (rest3 n) (by omega) (by omega), w64 _ (by omega) (by omega), show (i : Int) + 1 = ((i + 1 : Nat) : Int) from by omega,
      ih k (i + 1) (rest3 n) (acc ++ [low3 n]) (by omega) (by omega) (by simp [hl]) hu.1 hu.2]
    simp [word]
theorem impl_WordOf_f (k : Nat) (n a : Int) (hk : 40 ≤ k) (ha : -9223372036854775808 ≤ a) : impl_WordOf.f k n a = some (wordOf n a) := by
  obtain ⟨k, rfl⟩ : ∃ m, k = m + 1 := ⟨k - 1, by omega⟩
  unfold impl_WordOf.f wordOf
  by_cases h1 : a < 1
  · rw [if_pos h1, if_neg (by omega)]; simp only [impl_WordOf.j0]; rfl
  · rw [if_neg h1]
    by_cases h2 : a > 30
    · rw [if_pos h2, if_neg (by omega)]; simp only [impl_WordOf.j0]; rfl
    · rw [if_neg h2, impl_fits_f _ n a (by omega) (by omega) (by omega)]
      simp only [bsome, impl_WordOf.j0]
      have h5 : lim a.toNat ≤ lim 30 := lim_mono (by omega)
      rw [lim30] at h5
      by_cases h : -lim a.toNat ≤ n ∧ n ≤ lim a.toNat
      · rw [if_neg (by simpa using h), if_pos ⟨by omega, by omega, h⟩]
        have := impl_WordOf_l0 a (by omega) a.toNat k 0 n [] (by omega) (by omega) rfl (by omega) (by omega)
        simpa using this
      · rw [if_pos (by rw [decide_eq_false h]; rfl), if_neg (fun hh => h hh.2.2)]
theorem spec_l2Word_l0 (a : Int) (ha : a ≤ 30) : ∀ (d k i : Nat) (n : Int) (acc : List Int), (i : Int) + d = a → d < k → acc.length = i → -1000000000000000000 ≤ n → n ≤ 1000000000000000000 →
    spec_l2Word.l0 k n a acc (i : Int) = some (acc ++ word n d) := by
  intro d
  induction d with
  | zero =>
    intro k i n acc h hk hl h0 h1
    obtain ⟨k, rfl⟩ : ∃ m, k = m + 1 := ⟨k - 1, by omega⟩
    simp only [spec_l2Word.l0]
    rw [if_neg (by omega)]; simp [word]
  | succ d ih =>
    intro k i n acc h hk hl h0 h1
    obtain ⟨k, rfl⟩ : ∃ m, k = m + 1 := ⟨k - 1, by omega⟩
    have ht := low3_trit n
    unfold Trit at ht
    have hu := rest3_bd n 1000000000000000000 (by omega) (by omega) h1
    have fin : spec_l2Word.l0 k (wrap64 (Int.tdiv (wrap64 (n - low3 n)) 3)) a (acc ++ [low3 n]) (wrap64 ((i : Int) + 1)) = some (acc ++ word n (d + 1)) := by
      rw [w64 (n - low3 n) (by omega) (by omega), tdiv_low3, w64 (rest3 n) (by omega) (by omega), w64 _ (by omega) (by omega), show (i : Int) + 1 = ((i + 1 : Nat) : Int) from by omega,
        ih k (i + 1) (rest3 n) (acc ++ [low3 n]) (by omega) (by omega) (by simp [hl]) hu.1 hu.2]
      simp [word]
    simp only [spec_l2Word.l0]
    rw [if_pos (by omega)]
    rcases Int.le_total 0 n with h | h
    · have e2 := tmod3_nonneg n h
      rw [e2]
      by_cases c : n % 3 > 1
      · rw [if_pos c, w64 (n % 3 - 3) (by omega) (by omega), if_neg (by omega), if_pos (by omega), show n % 3 - 3 = low3 n from by unfold low3; omega]
        exact fin
      · rw [if_neg c, if_neg (by omega), if_pos (by omega), show n % 3 = low3 n from by unfold low3; omega]
        exact fin
    · have e2 := tmod3_nonpos n h
      rw [e2, if_neg (by omega)]
      by_cases c : -((-n) % 3) < -1
      · rw [if_pos c, if_pos (by omega), w64 (-(-n % 3) + 3) (by omega) (by omega), show -(-n % 3) + 3 = low3 n from by unfold low3; omega]
        exact fin
      · rw [if_neg c, if_pos (by omega), show -(-n % 3) = low3 n from by unfold low3; omega]
        exact fin
theorem spec_l2Word_f (k : Nat) (n a : Int) (hk : 40 ≤ k) (ha0 : 0 ≤ a) (ha : a ≤ 30) (h0 : -1000000000000000000 ≤ n) (h1 : n ≤ 1000000000000000000) : spec_l2Word.f k n a = some (word n a.toNat) := by
  unfold spec_l2Word.f
  have := spec_l2Word_l0 a ha a.toNat k 0 n [] (by omega) (by omega) rfl h0 h1
  simpa using this
theorem laws_eqIntS_l0 (a b : List Int) (hl : a.length ≤ 2000000) (hb : a.length = b.length) : ∀ (d k i : Nat), i + d = a.length → d < k →
    laws_eqIntS.l0 k a b (i : Int) = some (decide (a.drop i = b.drop i)) := by
  intro d
  induction d with
  | zero =>
    intro k i h hk
    obtain ⟨k, rfl⟩ : ∃ m, k = m + 1 := ⟨k - 1, by omega⟩
    simp only [laws_eqIntS.l0]
    rw [if_neg (by omega), List.drop_eq_nil_of_le (by omega), List.drop_eq_nil_of_le (by omega)]; simp
  | succ d ih =>
    intro k i h hk
    obtain ⟨k, rfl⟩ : ∃ m, k = m + 1 := ⟨k - 1, by omega⟩
    simp only [laws_eqIntS.l0]
    rw [if_pos (by omega), if_pos (by omega), if_pos (by omega), drop_rd a i (by omega), drop_rd b i (by omega), w64 _ (by omega) (by omega)]
    by_cases c : rd a (i : Int) = rd b (i : Int)
    · rw [if_pos c, show (i : Int) + 1 = ((i + 1 : Nat) : Int) from by omega, ih k (i + 1) (by omega) (by omega)]
      simp [c]
    · rw [if_neg c]; simp [c]
theorem laws_eqIntS_f (k : Nat) (a b : List Int) (hk : 2000001 ≤ k) (hl : a.length ≤ 2000000) : laws_eqIntS.f k a b = some (decide (a = b)) := by
  unfold laws_eqIntS.f
  by_cases h : a.length = b.length
  · rw [if_pos (by omega)]
    have := laws_eqIntS_l0 a b hl h a.length k 0 (by omega) (by omega)
    simpa using this
  · rw [if_neg (by omega)]
    have : a ≠ b := fun e => h (by rw [e])
    simp [this]
theorem laws_markIntS_l0 : ∀ (rest pre : List Int) (k : Nat) (m : Int), (pre ++ rest).length ≤ 2000000 → rest.length < k → 0 ≤ m → m ≤ 1000000000000 → m + rest.length ≤ 1000000000000 →
    laws_markIntS.l0 k (pre ++ rest) m (pre.length : Int) = some (m + rest.length, pre ++ marks m rest.length) := by
  intro rest
  induction rest with
  | nil =>
    intro pre k m hl hk h0 h1 h2
    obtain ⟨k, rfl⟩ : ∃ m, k = m + 1 := ⟨k - 1, by simp only [List.length_nil] at hk; omega⟩
    simp only [laws_markIntS.l0]
    rw [if_neg (by simp)]; simp [marks]
  | cons x rest ih =>
    intro pre k m hl hk h0 h1 h2
    simp only [List.length_cons, List.length_append] at *
    obtain ⟨k, rfl⟩ : ∃ m, k = m + 1 := ⟨k - 1, by omega⟩
    simp only [laws_markIntS.l0]
    rw [if_pos (by simp only [List.length_append, List.length_cons]; omega), if_pos (by omega), Int.toNat_natCast, set_append_len, w64 _ (by omega) (by omega), w64 _ (by omega) (by omega)]
    have := ih (pre ++ [m]) k (m + 1) (by simp; omega) (by omega) (by omega) (by omega) (by omega)
    simp only [List.append_assoc, List.singleton_append, List.length_append, List.length_singleton] at this
    rw [show (pre.length : Int) + 1 = ((pre.length + 1 : Nat) : Int) from by omega, this]
    simp [marks]; omega
theorem laws_markIntS_f (k : Nat) (l : List Int) (m : Int) (hk : 2000001 ≤ k) (hl : l.length ≤ 2000000) (h0 : 0 ≤ m) (h1 : m ≤ 10000000000) : laws_markIntS.f k l m = some (m + l.length, marks m l.length) := by
  unfold laws_markIntS.f
  have := laws_markIntS_l0 l [] k m (by simpa using hl) (by omega) h0 (by omega) (by omega)
  simpa using this
theorem laws_heldIntS_l0 (l : List Int) (hl : l.length ≤ 2000000) : ∀ (d k i : Nat) (m : Int), i + d = l.length → d < k → 0 ≤ m → m + d ≤ 1000000000000 →
    laws_heldIntS.l0 k l m (i : Int) = some (if l.drop i = marks m d then m + d else -1) := by
  intro d
  induction d with
  | zero =>
    intro k i m h hk h0 h1
    obtain ⟨k, rfl⟩ : ∃ m, k = m + 1 := ⟨k - 1, by omega⟩
    simp only [laws_heldIntS.l0]
    rw [if_neg (by omega), List.drop_eq_nil_of_le (by omega)]; simp [marks]
  | succ d ih =>
    intro k i m h hk h0 h1
    obtain ⟨k, rfl⟩ : ∃ m, k = m + 1 := ⟨k - 1, by omega⟩
    simp only [laws_heldIntS.l0]
    rw [if_pos (by omega), if_pos (by omega), drop_rd l i (by omega), w64 _ (by omega) (by omega), w64 _ (by omega) (by omega)]
    simp only [marks, List.cons.injEq]
    by_cases c : rd l (i : Int) = m
    · rw [if_pos c, show (i : Int) + 1 = ((i + 1 : Nat) : Int) from by omega, ih k (i + 1) (m + 1) (by omega) (by omega) (by omega) (by omega)]
      simp only [c, true_and]
      split
      · congr 1; omega
      · rfl
    · rw [if_neg c, if_neg (fun hh => c hh.1)]
theorem laws_heldIntS_f (k : Nat) (l : List Int) (m : Int) (hk : 2000001 ≤ k) (hl : l.length ≤ 2000000) (h0 : 0 ≤ m) (h1 : m ≤ 10000000000) : laws_heldIntS.f k l m = some (if l = marks m l.length then m + l.length else -1) := by
  unfold laws_heldIntS.f
  have := laws_heldIntS_l0 l hl l.length k 0 m (by omega) (by omega) h0 (by omega)
  simpa using this
theorem laws_heldIntS_marks (k : Nat) (m : Int) (n : Nat) (hk : 2000001 ≤ k) (hl : n ≤ 2000000) (h0 : 0 ≤ m) (h1 : m ≤ 10000000000) : laws_heldIntS.f k (marks m n) m = some (m + n) := by
  rw [laws_heldIntS_f k (marks m n) m hk (by rw [length_marks]; exact hl) h0 h1, length_marks, if_pos rfl]
theorem mx_abs (d : Int) (h : -9223372036854775807 ≤ d) (h1 : d ≤ 9223372036854775807) : mx d (wrap64 (-d)) = abs3 d := by
  rw [w64 _ (by omega) (by omega)]
  unfold mx abs3
  split
  · rw [if_pos (by omega)]
  · split <;> omega
theorem impl_size_f (d : Int) (h : -9223372036854775807 ≤ d) (h1 : d ≤ 9223372036854775807) : impl_size.f d = some (abs3 d) := by
  unfold impl_size.f
  rw [mx_abs d h h1]
theorem spec_l4Abs_f (d : Int) (h : -9223372036854775807 ≤ d) (h1 : d ≤ 9223372036854775807) : spec_l4Abs.f d = some (abs3 d) := by
  unfold spec_l4Abs.f
  rw [mx_abs d h h1]
theorem abs3_le {d B : Int} (h : -B ≤ d) (h1 : d ≤ B) : abs3 d ≤ B := by unfold abs3; split <;> omega
theorem spec_SignOf_f (d : Int) : spec_SignOf.f d = some (if d < 0 then -1 else if d > 0 then 1 else 0) := by
  unfold spec_SignOf.f
  split
  · rfl
  · split <;> rfl
theorem sgn_bd (d : Int) : -1 ≤ (if d < 0 then -1 else if d > 0 then 1 else 0 : Int) ∧ (if d < 0 then -1 else if d > 0 then 1 else 0 : Int) ≤ 1 := by
  split
  · omega
  · split <;> omega
theorem spec_l4Divide_l1 (k : Nat) (n d q r : Int) (hk : 3 ≤ k) (hd : d ≠ 0) (hd0 : -1000000000000000000 ≤ d) (hd1 : d ≤ 1000000000000000000) (e : n = q * d + r) (hn0 : -1000000000000000000 ≤ n) (hn1 : n ≤ 1000000000000000000)
    (hq0 : -2000000000000000000 ≤ q) (hq1 : q ≤ 2000000000000000000) (h1 : -abs3 d < r) (h2 : 2 * r ≤ abs3 d) : spec_l4Divide.l1 k d q r = some (bquo n d, brem n d) := by
  have hp := abs3_pos hd
  have hb := abs3_le (B := 1000000000000000000) hd0 hd1
  obtain ⟨k, rfl⟩ : ∃ m, k = m + 2 := ⟨k - 2, by omega⟩
  have last : ∀ (k : Nat) (q r : Int), n = q * d + r → -abs3 d < 2 * r → 2 * r ≤ abs3 d → spec_l4Divide.l1 (k + 1) d q r = some (bquo n d, brem n d) := by
    intro k q r e h1 h2
    obtain ⟨b1, b2⟩ := brem_of (n := n) (q := q) (r := r) hd e h1 h2
    simp only [spec_l4Divide.l1]
    rw [spec_l4Abs_f d (by omega) (by omega), bsome, w64 (2 * r) (by omega) (by omega), w64 (-abs3 d) (by omega) (by omega), if_neg (by omega), b1, b2]
  by_cases c : 2 * r ≤ -abs3 d
  · have e2 : d * (if d < 0 then -1 else if d > 0 then 1 else 0) = abs3 d := by
      unfold abs3
      split
      · omega
      · rw [if_pos (by omega)]; omega
    have sb : ∃ s : Int, (if d < 0 then -1 else if d > 0 then 1 else 0 : Int) = s ∧ (-1 ≤ s ∧ s ≤ 1) ∧ d * s = abs3 d := ⟨_, rfl, sgn_bd d, e2⟩
    obtain ⟨s, hs, ⟨s0, s1⟩, s2⟩ := sb
    rw [spec_l4Divide.l1]
    rw [spec_l4Abs_f d (by omega) (by omega), bsome, w64 (2 * r) (by omega) (by omega), w64 (-abs3 d) (by omega) (by omega), if_pos c, bsome, spec_SignOf_f, bsome, hs, w64 (q - s) (by omega) (by omega), w64 (r + abs3 d) (by omega) (by omega)]
    exact last k (q - s) (r + abs3 d) (by rw [Int.sub_mul, Int.mul_comm s d]; omega) (by omega) (by omega)
  · exact last (k + 1) q r e (by omega) h2
theorem spec_l4Divide_f (k : Nat) (n d : Int) (hk : 6 ≤ k) (hn0 : -1000000000000000000 ≤ n) (hn1 : n ≤ 1000000000000000000) (hd : d ≠ 0) (hd0 : -1000000000000000000 ≤ d) (hd1 : d ≤ 1000000000000000000) : spec_l4Divide.f k n d = some (bquo n d, brem n d) := by
  have hp := abs3_pos hd
  have hb := abs3_le (B := 1000000000000000000) hd0 hd1
  have e1 := tmod_tdiv n d
  have e2 : (0 ≤ n → 0 ≤ Int.tmod n d ∧ Int.tmod n d < abs3 d) ∧ (n ≤ 0 → -abs3 d < Int.tmod n d ∧ Int.tmod n d ≤ 0) := by
    have h := tmod_range (n := n) hp
    unfold abs3 at h ⊢
    split
    · rename_i hneg
      rw [if_pos hneg, Int.tmod_neg] at h
      exact h
    · rename_i hneg
      rw [if_neg hneg] at h
      exact h
  have hq : -1000000000000000000 ≤ Int.tdiv n d ∧ Int.tdiv n d ≤ 1000000000000000000 := by
    have h1 := Int.natAbs_tdiv n d
    have h2 := Nat.div_le_self n.natAbs d.natAbs
    have h3 : (Int.tdiv n d).natAbs ≤ n.natAbs := by rw [h1]; exact h2
    clear h1 h2
    omega
  unfold spec_l4Divide.f
  rw [if_neg hd, w64 (Int.tdiv n d) (by omega) (by omega)]
  have em : Int.tdiv n d * d = d * Int.tdiv n d := Int.mul_comm ..
  generalize Int.tmod n d = r at *
  generalize Int.tdiv n d = q at *
  rw [w64 (q * d) (by omega) (by omega), w64 (n - q * d) (by omega) (by omega), show n - q * d = r from by omega]
  obtain ⟨k, rfl⟩ : ∃ m, k = m + 2 := ⟨k - 2, by omega⟩
  by_cases c : 2 * r > abs3 d
  · have e2 : d * (if d < 0 then -1 else if d > 0 then 1 else 0) = abs3 d := by
      unfold abs3
      split
      · omega
      · rw [if_pos (by omega)]; omega
    have sb : ∃ s : Int, (if d < 0 then -1 else if d > 0 then 1 else 0 : Int) = s ∧ (-1 ≤ s ∧ s ≤ 1) ∧ d * s = abs3 d := ⟨_, rfl, sgn_bd d, e2⟩
    obtain ⟨s, hs, ⟨s0, s1⟩, s2⟩ := sb
    rw [spec_l4Divide.l0]
    rw [spec_l4Abs_f d (by omega) (by omega), bsome, w64 (2 * r) (by omega) (by omega), if_pos c, bsome, spec_SignOf_f, bsome, hs, w64 (q + s) (by omega) (by omega), w64 (r - abs3 d) (by omega) (by omega), spec_l4Divide.l0, spec_l4Abs_f d (by omega) (by omega), bsome, w64 (2 * (r - abs3 d)) (by omega) (by omega), if_neg (by omega)]
    exact spec_l4Divide_l1 k n d (q + s) (r - abs3 d) (by omega) hd hd0 hd1 (by rw [Int.add_mul, Int.mul_comm s d]; omega) hn0 hn1 (by omega) (by omega) (by omega) (by omega)
  · simp only [spec_l4Divide.l0]
    rw [spec_l4Abs_f d (by omega) (by omega), bsome, w64 (2 * r) (by omega) (by omega), if_neg c]
    exact spec_l4Divide_l1 (k + 1) n d q r (by omega) hd hd0 hd1 (by omega) hn0 hn1 (by omega) (by omega) (by omega) (by omega)
theorem pow3_20 : pow3 20 = 3486784401 := by decide
/-- The fraction's word: the quotient to the nearest, the lesser one in a tie. -/
theorem thirds_bd {n d : Int} {k : Nat} (hd : 0 < d) (h : 2 * abs3 n < d) : -lim k ≤ bquo (n * pow3 k) d ∧ bquo (n * pow3 k) d ≤ lim k := by
  have e := bquo_brem (n := n * pow3 k) (d := d) (by omega)
  have b := brem_bd (n := n * pow3 k) (d := d) (by omega)
  have ad : abs3 d = d := by unfold abs3; rw [if_neg (by omega)]
  rw [ad] at b
  have p := pow3_lim k
  have l0 := lim_nonneg k
  have pp := pow3_pos k
  have n1 : -(d - 1) ≤ 2 * n ∧ 2 * n ≤ d - 1 := by unfold abs3 at h; split at h <;> omega
  have m1 : 0 ≤ (d - 1 - 2 * n) * pow3 k := Int.mul_nonneg (by omega) (by omega)
  have m2 : 0 ≤ (d - 1 + 2 * n) * pow3 k := Int.mul_nonneg (by omega) (by omega)
  simp only [Int.sub_mul, Int.add_mul, Int.one_mul, Int.mul_assoc] at m1 m2
  generalize bquo (n * pow3 k) d = q at *
  generalize brem (n * pow3 k) d = r at *
  constructor
  · rcases Int.lt_or_le q (-lim k) with hlt | hle
    · exfalso
      have m3 : 0 ≤ (-lim k - 1 - q) * d := Int.mul_nonneg (by omega) (by omega)
      simp only [Int.sub_mul, Int.neg_mul, Int.one_mul] at m3
      rw [p] at m1 m2 e
      simp only [Int.mul_add, Int.mul_one] at m1 m2 e
      have c1 : d * (2 * lim k) = 2 * (lim k * d) := by rw [Int.mul_left_comm, Int.mul_comm d]
      omega
    · exact hle
  · rcases Int.lt_or_le (lim k) q with hlt | hle
    · exfalso
      have m3 : 0 ≤ (q - lim k - 1) * d := Int.mul_nonneg (by omega) (by omega)
      simp only [Int.sub_mul, Int.one_mul] at m3
      rw [p] at m1 m2 e
      simp only [Int.mul_add, Int.mul_one] at m1 m2 e
      have c1 : d * (2 * lim k) = 2 * (lim k * d) := by rw [Int.mul_left_comm, Int.mul_comm d]
      omega
    · exact hle
def thirdsOf (n d k : Int) : List Int × Bool := if 1 ≤ d ∧ d ≤ 1000000 ∧ 1 ≤ k ∧ k ≤ 20 ∧ 2 * abs3 n < d then (word (bquo (n * pow3 k.toNat) d) k.toNat, true) else ([], false)
theorem thirdsOf_len (n d k : Int) : (thirdsOf n d k).1.length ≤ 30 := by
  unfold thirdsOf
  split
  · simp only [length_word]; omega
  · simp
theorem thirds_small {n d : Int} {k : Nat} (hd2 : d ≤ 1000000) (h : 2 * abs3 n < d) (hk : k ≤ 20) : (-500000 ≤ n ∧ n ≤ 500000) ∧ (1 ≤ pow3 k ∧ pow3 k ≤ 3486784401) ∧ -1743392200500000 ≤ n * pow3 k ∧ n * pow3 k ≤ 1743392200500000 := by
  have n1 : -500000 ≤ n ∧ n ≤ 500000 := by unfold abs3 at h; split at h <;> omega
  have pp := pow3_pos k
  have p20 : pow3 k ≤ pow3 20 := pow3_mono hk
  rw [pow3_20] at p20
  have := mul_le (x := n) (y := pow3 k) (a := 500000) (b := 3486784401) n1 ⟨by omega, p20⟩
  omega
theorem impl_ThirdsOf_f (K : Nat) (n d k : Int) (hK : 100 ≤ K) (hn0 : -9223372036854775808 ≤ n) (hn1 : n ≤ 9223372036854775807) : impl_ThirdsOf.f K n d k = some (thirdsOf n d k) := by
  obtain ⟨K, rfl⟩ : ∃ m, K = m + 1 := ⟨K - 1, by omega⟩
  unfold impl_ThirdsOf.f thirdsOf
  have no : ∀ b : Bool, b = true → impl_ThirdsOf.j0 (K + 1) n d k b = some ([], false) := by
    intro b hb; rw [impl_ThirdsOf.j0, if_pos hb]
  by_cases h1 : d < 1
  · rw [if_pos h1, no true rfl, if_neg (by omega)]
  rw [if_neg h1]
  by_cases h2 : d > 1000000
  · rw [if_pos h2, no true rfl, if_neg (by omega)]
  rw [if_neg h2]
  by_cases h3 : k < 1
  · rw [if_pos h3, no true rfl, if_neg (by omega)]
  rw [if_neg h3]
  by_cases h4 : k > 20
  · rw [if_pos h4, no true rfl, if_neg (by omega)]
  rw [if_neg h4]
  by_cases h5 : n ≥ d
  · rw [if_pos h5, no true rfl, if_neg (fun h => by have := h.2.2.2.2; unfold abs3 at this; split at this <;> omega)]
  rw [if_neg h5, w64 (-d) (by omega) (by omega)]
  by_cases h6 : n ≤ -d
  · rw [if_pos h6, no true rfl, if_neg (fun h => by have := h.2.2.2.2; unfold abs3 at this; split at this <;> omega)]
  rw [if_neg h6, impl_size_f n (by omega) (by omega), bsome]
  have a1 : 0 ≤ abs3 n := abs3_nonneg n
  have a2 := abs3_le (d := n) (B := 1000000) (by omega) (by omega)
  rw [w64 (2 * abs3 n) (by omega) (by omega)]
  by_cases h7 : 2 * abs3 n ≥ d
  · rw [no _ (decide_eq_true h7), if_neg (by omega)]
  · have hs := thirds_small (n := n) (d := d) (k := k.toNat) (by omega) (by omega) (by omega)
    have hq := thirds_bd (n := n) (d := d) (k := k.toNat) (by omega) (by omega)
    have hl : lim k.toNat ≤ lim 30 := lim_mono (by omega)
    rw [lim30] at hl
    have e := bquo_brem (n := n * pow3 k.toNat) (d := d) (by omega)
    have b := brem_bd (n := n * pow3 k.toNat) (d := d) (by omega)
    have ad : abs3 d = d := by unfold abs3; rw [if_neg (by omega)]
    rw [ad] at b
    rw [impl_ThirdsOf.j0, if_neg (by simpa using h7), if_pos ⟨by omega, by omega, by omega, by omega, by omega⟩, impl_power_f _ _ (by omega) (by omega), bsome, w64 (2 * n) (by omega) (by omega), w64 (2 * d) (by omega) (by omega), if_neg (by omega)]
    have e2 : 2 * n * pow3 k.toNat = 2 * (n * pow3 k.toNat) := Int.mul_assoc ..
    rw [e2, w64 (2 * (n * pow3 k.toNat)) (by omega) (by omega), w64 (2 * (n * pow3 k.toNat) - d) (by omega) (by omega)]
    have t1 := tmod_tdiv (2 * (n * pow3 k.toNat) - d) (2 * d)
    have t2 := tmod_range (n := 2 * (n * pow3 k.toNat) - d) (m := 2 * d) (by omega)
    generalize n * pow3 k.toNat = x at *
    generalize bquo x d = q at *
    generalize brem x d = r at *
    generalize Int.tmod (2 * x - d) (2 * d) = u at *
    have tb : (Int.tdiv (2 * x - d) (2 * d)).natAbs ≤ (2 * x - d).natAbs := by rw [Int.natAbs_tdiv]; exact Nat.div_le_self _ _
    generalize Int.tdiv (2 * x - d) (2 * d) = v at *
    have e3 : 2 * d * v = v * (2 * d) := Int.mul_comm ..
    have e4 : v * (2 * d) = 2 * (v * d) := by rw [Int.mul_left_comm]
    rw [w64 v (by omega) (by omega), w64 (v * (2 * d)) (by omega) (by omega)]
    have uniq : ∀ y : Int, 2 * x - d ≤ 2 * (y * d) → 2 * (y * d) < 2 * x - d + 2 * d → y = q := by
      intro y y1 y2
      rcases Int.lt_trichotomy y q with hlt | heq | hgt
      · exfalso
        have m : 0 ≤ (q - y - 1) * d := Int.mul_nonneg (by omega) (by omega)
        simp only [Int.sub_mul, Int.one_mul] at m
        omega
      · exact heq
      · exfalso
        have m : 0 ≤ (y - q - 1) * d := Int.mul_nonneg (by omega) (by omega)
        simp only [Int.sub_mul, Int.one_mul] at m
        omega
    by_cases c : v * (2 * d) < 2 * x - d
    · have : v + 1 = q := uniq (v + 1) (by rw [Int.add_mul]; omega) (by rw [Int.add_mul]; omega)
      rw [if_pos c, w64 (v + 1) (by omega) (by omega), this, impl_WordOf_f _ _ _ (by omega) (by omega), bsome, wordOf_yes (by omega) (by omega) hq.1 hq.2]
    · have : v = q := uniq v (by omega) (by omega)
      rw [if_neg c, this, impl_WordOf_f _ _ _ (by omega) (by omega), bsome, wordOf_yes (by omega) (by omega) hq.1 hq.2]
theorem spec_ThirdsOf_l0 (n d k : Int) (hd1 : 1 ≤ d) (hd2 : d ≤ 1000000) (hk1 : 1 ≤ k) (hk2 : k ≤ 20) (h : 2 * abs3 n < d) : ∀ (m K i : Nat), (i : Int) + m = k → m + 60 < K → spec_ThirdsOf.l0 K d k (n * pow3 i) (i : Int) = some (word (bquo (n * pow3 k.toNat) d) k.toNat, true) := by
  intro m
  induction m with
  | zero =>
    intro K i hi hK
    obtain ⟨K, rfl⟩ : ∃ m, K = m + 1 := ⟨K - 1, by omega⟩
    have hs := thirds_small (n := n) (d := d) (k := k.toNat) (by omega) (by omega) (by omega)
    have hq := thirds_bd (n := n) (d := d) (k := k.toNat) (by omega) (by omega)
    have hl : lim k.toNat ≤ lim 30 := lim_mono (by omega)
    rw [lim30] at hl
    have b := brem_bd (n := n * pow3 k.toNat) (d := d) (by omega)
    have ad : abs3 d = d := by unfold abs3; rw [if_neg (by omega)]
    rw [ad] at b
    rw [spec_ThirdsOf.l0, if_neg (by omega), show i = k.toNat from by omega, spec_l4Divide_f _ _ _ (by omega) (by omega) (by omega) (by omega) (by omega) (by omega), bsome, w64 (2 * brem _ _) (by omega) (by omega), w64 (-d) (by omega) (by omega), if_neg (by omega),
      spec_l2Word_f _ _ _ (by omega) (by omega) (by omega) (by omega) (by omega), bsome]
  | succ m ih =>
    intro K i hi hK
    obtain ⟨K, rfl⟩ : ∃ m, K = m + 1 := ⟨K - 1, by omega⟩
    have hs := thirds_small (n := n) (d := d) (k := i) (by omega) (by omega) (by omega)
    rw [spec_ThirdsOf.l0, if_pos (by omega), w64 (3 * _) (by omega) (by omega), w64 _ (by omega) (by omega)]
    have := ih K (i + 1) (by omega) (by omega)
    simp only [pow3] at this
    rw [Int.mul_left_comm] at this
    rw [show (i : Int) + 1 = ((i + 1 : Nat) : Int) from by omega]
    exact this
theorem spec_ThirdsOf_f (K : Nat) (n d k : Int) (hK : 100 ≤ K) (hn0 : -9223372036854775808 ≤ n) (hn1 : n ≤ 9223372036854775807) : spec_ThirdsOf.f K n d k = some (thirdsOf n d k) := by
  obtain ⟨K, rfl⟩ : ∃ m, K = m + 1 := ⟨K - 1, by omega⟩
  unfold spec_ThirdsOf.f thirdsOf
  have no : ∀ b : Bool, b = true → spec_ThirdsOf.j0 (K + 1) n d k b = some ([], false) := by
    intro b hb; rw [spec_ThirdsOf.j0, if_pos hb]
  rw [spec_l1In_f, bsome]
  by_cases h1 : 1 ≤ d ∧ d ≤ 1000000
  · rw [if_pos (by simpa using h1), spec_l1In_f, bsome]
    by_cases h3 : 1 ≤ k ∧ k ≤ 20
    · rw [if_pos (by simpa using h3), w64 (-d) (by omega) (by omega)]
      by_cases h5 : n < -d
      · rw [if_pos h5, no true rfl, if_neg (fun h => by have := h.2.2.2.2; unfold abs3 at this; split at this <;> omega)]
      rw [if_neg h5]
      by_cases h6 : n > d
      · rw [if_pos h6, no true rfl, if_neg (fun h => by have := h.2.2.2.2; unfold abs3 at this; split at this <;> omega)]
      rw [if_neg h6, spec_l4Abs_f n (by omega) (by omega), bsome]
      have a1 : 0 ≤ abs3 n := abs3_nonneg n
      have a2 := abs3_le (d := n) (B := 1000000) (by omega) (by omega)
      rw [w64 (2 * abs3 n) (by omega) (by omega)]
      by_cases h7 : 2 * abs3 n ≥ d
      · rw [no _ (decide_eq_true h7), if_neg (by omega)]
      · rw [spec_ThirdsOf.j0, if_neg (by simpa using h7), if_pos ⟨by omega, by omega, by omega, by omega, by omega⟩]
        have := spec_ThirdsOf_l0 n d k (by omega) (by omega) (by omega) (by omega) (by omega) k.toNat K 0 (by omega) (by omega)
        simpa [pow3] using this
    · rw [if_neg (by rw [decide_eq_false h3]; decide), no true rfl, if_neg (fun h => h3 ⟨h.2.2.1, h.2.2.2.1⟩)]
  · rw [if_neg (by rw [decide_eq_false h1]; decide), no true rfl, if_neg (fun h => h1 ⟨h.1, h.2.1⟩)]
end FnExactThirdsOfParts
open FnExactThirdsOfParts
attribute [local congr] bind_left

theorem FnExactThirdsOf : laws_FnExactThirdsOf.Pure := by
  intro n d k hn _ _
  have hn' := wf64 hn
  obtain ⟨K, hK⟩ : ∃ K, 100000000 ≤ K := ⟨_, Nat.le_refl _⟩
  refine ⟨K + 4, ?_⟩
  unfold laws_FnExactThirdsOf.f
  have f := fun K (hk : 100 ≤ K) => impl_ThirdsOf_f K n d k hk hn'.1 hn'.2
  have g := fun K (hk : 100 ≤ K) => spec_ThirdsOf_f K n d k hk hn'.1 hn'.2
  have hm := thirdsOf_len n d k
  generalize thirdsOf n d k = r at *
  simp (disch := omega) only [↓if_pos, ↓if_neg, ↓reduceIte, bsome, decide_true, bne_self_eq_false, Bool.false_eq_true, f, g, laws_eqIntS_f, laws_markIntS_f, laws_heldIntS_marks, laws_FnExactThirdsOf.j0, laws_FnExactThirdsOf.j1]

end Go.Proofs.Ytfhbdknmjbgghaa.Pure
