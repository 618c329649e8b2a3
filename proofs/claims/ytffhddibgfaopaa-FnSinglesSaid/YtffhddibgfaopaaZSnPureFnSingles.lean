/- For all data the numbers of single precision of two floating numbers are ordered as these are, the negative's is the negative, and whole numbers are themselves; no condition. -/
import Derived.Test.YtffhddibgfaopaaZSnPY0
import Derived.Test.YtffhddibgfaopaaZSnGlue
namespace Go.Proofs.Ytffhddibgfaopaa.Pure
open Go.RowKit Go.Proofs.Ytffhddibgfaopaa.Tern Go.Proofs.Ytffhddibgfaopaa.P Go.Proofs.YtffhddibgfaopaaW.PrintWords Go.Proofs.YtffhddibgfaopaaW.PrintLast
set_option linter.unusedVariables false
set_option linter.unusedSimpArgs false

namespace FnSinglesParts
theorem impl_IsTrit_f (a : Int) : impl_IsTrit.f a = some (decide (Trit a)) := by
  unfold impl_IsTrit.f Trit
  split
  · rename_i h
    simp [show -1 ≤ a from h]
  · rename_i h
    have : ¬ (-1 ≤ a) := h
    simp [this]
theorem impl_trits_l0 (l : List Int) (hl : l.length ≤ 2000000) : ∀ (d k i : Nat), i + d = l.length → d < k →
    impl_trits.l0 k l (l.length : Int) (i : Int) = some (decide (Trits (l.drop i))) := by
  intro d
  induction d with
  | zero =>
    intro k i h hk
    obtain ⟨k, rfl⟩ : ∃ m, k = m + 1 := ⟨k - 1, by omega⟩
    simp only [impl_trits.l0]
    rw [if_neg (by omega), List.drop_eq_nil_of_le (by omega)]
    simp [Trits.nil]
  | succ d ih =>
    intro k i h hk
    obtain ⟨k, rfl⟩ : ∃ m, k = m + 1 := ⟨k - 1, by omega⟩
    simp only [impl_trits.l0]
    rw [if_pos (by omega), if_pos (by omega), if_pos (by omega), impl_IsTrit_f, drop_rd l i (by omega)]
    simp only [bsome, Trits.cons]
    by_cases ht : Trit (rd l (i : Int))
    · rw [if_pos (by simpa using ht), w64 _ (by omega) (by omega)]
      have := ih k (i + 1) (by omega) (by omega)
      rw [show ((i + 1 : Nat) : Int) = (i : Int) + 1 from by omega] at this
      rw [this]; simp [ht]
    · rw [if_neg (by simpa using ht)]; simp [ht]
theorem impl_trits_f (k : Nat) (l : List Int) (hk : 2000001 ≤ k) (hl : l.length ≤ 2000000) : impl_trits.f k l = some (decide (Trits l)) := by
  unfold impl_trits.f
  have := impl_trits_l0 l hl l.length k 0 (by omega) (by omega)
  simpa using this
theorem impl_value_l0 (l : List Int) (hl : l.length ≤ 30) (hb : Digs l) : ∀ (n k : Nat) (x : Int), n ≤ l.length → n < k → x = (n : Int) - 1 →
    impl_value.l0 k l (val (l.drop n)) x = some (val l) := by
  intro n
  induction n with
  | zero =>
    intro k x h hk hx
    obtain ⟨k, rfl⟩ : ∃ m, k = m + 1 := ⟨k - 1, by omega⟩
    simp only [impl_value.l0]
    rw [if_neg (by omega), List.drop_zero]
  | succ n ih =>
    intro k x h hk hx
    obtain ⟨k, rfl⟩ : ∃ m, k = m + 1 := ⟨k - 1, by omega⟩
    obtain rfl : x = (n : Int) := by omega
    have b1 := val_drop_bd l hl hb (n + 1)
    have b2 := hb _ (rd_mem l n (by omega))
    simp only [impl_value.l0]
    rw [if_pos (by omega), if_pos (by omega), if_pos (by omega), w64 (3 * _) (by omega) (by omega), w64 _ (by omega) (by omega), w64 _ (by omega) (by omega)]
    have e : val (l.drop n) = 3 * val (l.drop (n + 1)) + rd l (n : Int) := by rw [drop_rd l n (by omega)]; simp only [val]; omega
    rw [← e]
    exact ih k _ (by omega) (by omega) rfl
theorem impl_value_f (k : Nat) (l : List Int) (hk : 31 ≤ k) (hl : l.length ≤ 30) (hb : Digs l) : impl_value.f k l = some (val l) := by
  unfold impl_value.f
  have := impl_value_l0 l hl hb l.length k (wrap64 ((l.length : Int) - 1)) (Nat.le_refl _) (by omega) (w64 _ (by omega) (by omega))
  rw [List.drop_length] at this
  exact this
theorem impl_power_l0 (a : Int) (ha : a ≤ 30) : ∀ (d k i : Nat), (i : Int) + d = a → d < k → impl_power.l0 k (pow3 i) a (i : Int) = some (pow3 a.toNat) := by
  intro d
  induction d with
  | zero =>
    intro k i h hk
    obtain ⟨k, rfl⟩ : ∃ m, k = m + 1 := ⟨k - 1, by omega⟩
    simp only [impl_power.l0]
    rw [if_neg (by omega), show a.toNat = i from by omega]
  | succ d ih =>
    intro k i h hk
    obtain ⟨k, rfl⟩ : ∃ m, k = m + 1 := ⟨k - 1, by omega⟩
    have h1 := pow3_pos i
    have h2 : pow3 i ≤ pow3 30 := pow3_mono (by omega)
    rw [pow3_30] at h2
    simp only [impl_power.l0]
    rw [if_pos (by omega), w64 _ (by omega) (by omega), w64 _ (by omega) (by omega)]
    have := ih k (i + 1) (by omega) (by omega)
    simp only [pow3] at this
    rw [show pow3 i * 3 = 3 * pow3 i from by omega, show (i : Int) + 1 = ((i + 1 : Nat) : Int) from by omega]
    exact this
theorem impl_power_f (k : Nat) (a : Int) (hk : 31 ≤ k) (ha : a ≤ 30) : impl_power.f k a = some (pow3 a.toNat) := by
  unfold impl_power.f
  by_cases h : 0 ≤ a
  · exact impl_power_l0 a ha a.toNat k 0 (by omega) (by omega)
  · obtain ⟨k, rfl⟩ : ∃ m, k = m + 1 := ⟨k - 1, by omega⟩
    simp only [impl_power.l0]
    rw [if_neg (by omega), show a.toNat = 0 from by omega]; rfl
theorem impl_LimitOf_f (k : Nat) (a : Int) (hk : 31 ≤ k) : impl_LimitOf.f k a = some (if 1 ≤ a ∧ a ≤ 30 then lim a.toNat else 0) := by
  unfold impl_LimitOf.f
  by_cases h1 : a < 1
  · rw [if_pos h1, if_neg (by omega)]
  · rw [if_neg h1]
    by_cases h2 : a > 30
    · rw [if_pos h2, if_neg (by omega)]
    · rw [if_neg h2, impl_power_f k a hk (by omega), if_pos (by omega)]
      have h3 := pow3_lim a.toNat
      have h4 := lim_nonneg a.toNat
      have h5 : lim a.toNat ≤ lim 30 := lim_mono (by omega)
      rw [lim30] at h5
      simp only [bsome]
      rw [w64 (pow3 _ - 1) (by omega) (by omega), h3, show 2 * lim a.toNat + 1 - 1 = 2 * lim a.toNat from by omega, Int.mul_tdiv_cancel_left _ (by omega), w64 _ (by omega) (by omega)]
theorem impl_fits_f (k : Nat) (n a : Int) (hk : 31 ≤ k) (h1 : 1 ≤ a) (h2 : a ≤ 30) : impl_fits.f k n a = some (decide (-lim a.toNat ≤ n ∧ n ≤ lim a.toNat)) := by
  unfold impl_fits.f
  have h4 := lim_nonneg a.toNat
  have h5 : lim a.toNat ≤ lim 30 := lim_mono (by omega)
  rw [lim30] at h5
  rw [impl_LimitOf_f k a hk, if_pos ⟨h1, h2⟩]
  simp only [bsome]
  rw [w64 _ (by omega) (by omega)]
  by_cases h : n ≥ -lim a.toNat
  · rw [if_pos h]; simp [show -lim a.toNat ≤ n from h]
  · rw [if_neg h]
    have : ¬ -lim a.toNat ≤ n := h
    simp [this]
theorem impl_carried_tmod (n : Int) : ∃ c, impl_carried.f (Int.tmod n 3) = some (low3 n, c) := by
  unfold impl_carried.f low3
  rcases Int.le_total 0 n with h | h
  · rw [tmod3_nonneg n h]
    split
    · rw [w64 _ (by omega) (by omega)]; exact ⟨1, by congr 2; omega⟩
    · rw [if_neg (by omega)]; exact ⟨0, by congr 2; omega⟩
  · have e2 := tmod3_nonpos n h
    rw [e2]
    split
    · omega
    · split
      · rw [w64 _ (by omega) (by omega)]; exact ⟨-1, by congr 2; omega⟩
      · exact ⟨0, by congr 2; omega⟩
theorem tdiv_low3 (n : Int) : Int.tdiv (n - low3 n) 3 = rest3 n := by
  have := low3_rest3 n
  rw [show n - low3 n = 3 * rest3 n from by omega, Int.mul_tdiv_cancel_left _ (by omega)]
theorem rest3_bd (n B : Int) (hB : 0 ≤ B) (h0 : -B ≤ n) (h1 : n ≤ B) : -B ≤ rest3 n ∧ rest3 n ≤ B := by unfold rest3; omega
theorem impl_WordOf_l0 (a : Int) (ha : a ≤ 30) : ∀ (d k i : Nat) (n : Int) (acc : List Int), (i : Int) + d = a → d < k → acc.length = i → -1000000000000000000 ≤ n → n ≤ 1000000000000000000 →
    impl_WordOf.l0 k n acc a (i : Int) = some (acc ++ word n d, true) := by
  intro d
  induction d with
  | zero =>
    intro k i n acc h hk hl h0 h1
    obtain ⟨k, rfl⟩ : ∃ m, k = m + 1 := ⟨k - 1, by omega⟩
    simp only [impl_WordOf.l0]
    rw [if_neg (by omega)]; simp [word]
  | succ d ih =>
    intro k i n acc h hk hl h0 h1
    obtain ⟨k, rfl⟩ : ∃ m, k = m + 1 := ⟨k - 1, by omega⟩
    obtain ⟨c, hc⟩ := impl_carried_tmod n
    have ht := low3_trit n
    unfold Trit at ht
    have hu := rest3_bd n 1000000000000000000 (by omega) (by omega) h1
    simp only [impl_WordOf.l0]
    rw [if_pos (by omega), hc]
    simp only [bsome]
    rw [if_pos (by omega), w64 (n - low3 n) (by omega) (by omega), tdiv_low3, w64 (rest3 n) (by omega) (by omega), w64 _ (by omega) (by omega), show (i : Int) + 1 = ((i + 1 : Nat) : Int) from by omega,
      ih k (i + 1) (rest3 n) (acc ++ [low3 n]) (by omega) (by omega) (by simp [hl]) hu.1 hu.2]
    simp [word]
theorem impl_WordOf_f (k : Nat) (n a : Int) (hk : 40 ≤ k) (ha : -9223372036854775808 ≤ a) : impl_WordOf.f k n a = some (wordOf n a) := by
  obtain ⟨k, rfl⟩ : ∃ m, k = m + 1 := ⟨k - 1, by omega⟩
  unfold impl_WordOf.f wordOf
  by_cases h1 : a < 1
  · rw [if_pos h1, if_neg (by omega)]; simp only [impl_WordOf.j0]; rfl
  · rw [if_neg h1]
    by_cases h2 : a > 30
    · rw [if_pos h2, if_neg (by omega)]; simp only [impl_WordOf.j0]; rfl
    · rw [if_neg h2, impl_fits_f _ n a (by omega) (by omega) (by omega)]
      simp only [bsome, impl_WordOf.j0]
      have h5 : lim a.toNat ≤ lim 30 := lim_mono (by omega)
      rw [lim30] at h5
      by_cases h : -lim a.toNat ≤ n ∧ n ≤ lim a.toNat
      · rw [if_neg (by simpa using h), if_pos ⟨by omega, by omega, h⟩]
        have := impl_WordOf_l0 a (by omega) a.toNat k 0 n [] (by omega) (by omega) rfl (by omega) (by omega)
        simpa using this
      · rw [if_pos (by rw [decide_eq_false h]; rfl), if_neg (fun hh => h hh.2.2)]
theorem bits_and255 (x : Int) : 0 ≤ Go.bits .and .i64 x 255 ∧ Go.bits .and .i64 x 255 ≤ 255 := by
  have h : (BitVec.ofInt 64 x &&& BitVec.ofInt 64 255).toNat ≤ 255 := by
    rw [BitVec.toNat_and]
    exact Nat.le_trans Nat.and_le_right (by decide)
  have e : Go.bits .and .i64 x 255 = IntKind.i64.wrap ((BitVec.ofInt 64 x &&& BitVec.ofInt 64 255).toNat : Int) := rfl
  rw [e, IntKind.wrap_i64]
  omega
theorem spec_l01Byte_f (b : List Int) (i h : Int) (hb : b.length ≤ 2000000) (hi : 0 ≤ i) : ∃ r i' h', spec_l01Byte.f b i h = some (r, i', h') ∧ (0 ≤ r ∧ r ≤ 255) ∧ 0 ≤ i' := by
  unfold spec_l01Byte.f
  by_cases c : i < (b.length : Int)
  · rw [if_pos c, if_pos hi, w64 (i + 1) (by omega) (by omega)]
    exact ⟨_, _, _, rfl, bits_and255 _, by omega⟩
  · rw [if_neg c]
    exact ⟨_, _, _, rfl, bits_and255 _, hi⟩
theorem spec_l01Below_f (b : List Int) (i h n : Int) (hb : b.length ≤ 2000000) (hi : 0 ≤ i) (h1 : 1 ≤ n) (h2 : n ≤ 256) : ∃ r i' h', spec_l01Below.f b i h n = some (r, i', h') ∧ (0 ≤ r ∧ r < n) ∧ 0 ≤ i' := by
  obtain ⟨r, i', h', e, hr, hi'⟩ := spec_l01Byte_f b i h hb hi
  unfold spec_l01Below.f
  rw [if_neg (by omega), if_pos h2, e, bsome, if_neg (by omega)]
  refine ⟨_, _, _, rfl, ?_, hi'⟩
  show 0 ≤ Int.tmod r n ∧ Int.tmod r n < n
  exact (tmod_range (n := r) (by omega)).1 hr.1
theorem spec_l01New_f (k : Nat) (l : List Int) (hk : 2000002 ≤ k) (hl : l.length ≤ 2000000) : ∃ h, spec_l01New.f k l = some (l, 0, h) := by
  have key : ∀ (d k i : Nat) (h : Int), i + d = l.length → d < k → ∃ h', spec_l01New.l0 k l h (i : Int) = some (l, 0, h') := by
    intro d
    induction d with
    | zero =>
      intro k i h e hk
      obtain ⟨k, rfl⟩ : ∃ m, k = m + 1 := ⟨k - 1, by omega⟩
      rw [spec_l01New.l0, if_neg (by omega)]
      exact ⟨_, rfl⟩
    | succ d ih =>
      intro k i h e hk
      obtain ⟨k, rfl⟩ : ∃ m, k = m + 1 := ⟨k - 1, by omega⟩
      rw [spec_l01New.l0, if_pos (by omega)]
      by_cases c : (i : Int) < 4000
      · rw [if_pos c, if_pos (by omega), w64 ((i : Int) + 1) (by omega) (by omega), show (i : Int) + 1 = ((i + 1 : Nat) : Int) from by omega]
        exact ih k (i + 1) _ (by omega) (by omega)
      · rw [if_neg c]
        exact ⟨_, rfl⟩
  unfold spec_l01New.f
  exact key l.length k 0 _ (by omega) (by omega)
theorem laws_fresh_f (k : Nat) (l : List Int) (m : Int) (hk : 2000002 ≤ k) (hl : l.length ≤ 2000000) : ∃ c, laws_fresh.f k l m = some c ∧ c.length ≤ 1000 := by
  have key : ∀ (d k i : Nat) (acc : List Int), i + d = l.length → d < k → acc.length = i + 1 → i ≤ 600 → ∃ c, laws_fresh.l0 k l m acc (i : Int) = some c ∧ c.length ≤ 1000 := by
    intro d
    induction d with
    | zero =>
      intro k i acc e hk ha hi
      obtain ⟨k, rfl⟩ : ∃ m, k = m + 1 := ⟨k - 1, by omega⟩
      rw [laws_fresh.l0, if_neg (by omega)]
      exact ⟨acc, rfl, by omega⟩
    | succ d ih =>
      intro k i acc e hk ha hi
      obtain ⟨k, rfl⟩ : ∃ m, k = m + 1 := ⟨k - 1, by omega⟩
      rw [laws_fresh.l0, if_pos (by omega)]
      by_cases c : (i : Int) < 600
      · rw [if_pos c, if_pos (by omega), if_pos (by omega), w64 ((i : Int) + 1) (by omega) (by omega), show (i : Int) + 1 = ((i + 1 : Nat) : Int) from by omega]
        exact ih k (i + 1) _ (by omega) (by omega) (by simp [ha]) (by omega)
      · rw [if_neg c]
        exact ⟨acc, rfl, by omega⟩
  unfold laws_fresh.f
  exact key l.length k 0 _ (by omega) (by omega) (by simp) (by omega)
theorem laws_at_f (l : List Int) (i : Int) (hl : l.length ≤ 2000000) (hw : ∀ x ∈ l, (Lit.int .u8 x).wf = true) (h0 : 0 ≤ i) (h1 : i ≤ 1000) : ∃ v, laws_at.f l i = some v ∧ 0 ≤ v ∧ v ≤ 255 := by
  unfold laws_at.f
  by_cases c : i < (l.length : Int)
  · have := wf8 (hw _ (rd_mem l i.toNat (by omega)))
    rw [show ((i.toNat : Nat) : Int) = i from by omega] at this
    rw [if_pos c, if_pos h0, w64 _ (by omega) (by omega)]
    exact ⟨_, rfl, this⟩
  · rw [if_neg c, w64 (i * 37) (by omega) (by omega), w64 ((l.length : Int) * 11) (by omega) (by omega), w64 _ (by omega) (by omega)]
    have := (tmod_range (n := i * 37 + (l.length : Int) * 11) (m := 256) (by omega)).1 (by omega)
    exact ⟨_, rfl, by omega, by omega⟩
def add3 (c : Int) : List Int → List Int → List Int × List Int × Int
  | x :: xs, y :: ys => (low3 (x + y + c) :: (add3 (rest3 (x + y + c)) xs ys).1, c :: (add3 (rest3 (x + y + c)) xs ys).2.1, (add3 (rest3 (x + y + c)) xs ys).2.2)
  | _, _ => ([], [], c)
theorem add3_len (a : List Int) : ∀ (b : List Int) (c : Int), a.length = b.length → (add3 c a b).1.length = a.length ∧ (add3 c a b).2.1.length = a.length := by
  induction a with
  | nil =>
    intro b c h
    cases b with
    | nil => exact ⟨rfl, rfl⟩
    | cons y ys => simp at h
  | cons x xs ih =>
    intro b c h
    cases b with
    | nil => simp at h
    | cons y ys =>
      have := ih ys (rest3 (x + y + c)) (by simpa using h)
      simp only [add3, List.length_cons, this.1, this.2, and_self]
theorem add3_val (a : List Int) : ∀ (b : List Int) (c : Int), a.length = b.length → Trits a → Trits b → Trit c → val (add3 c a b).1 + pow3 a.length * (add3 c a b).2.2 = val a + val b + c ∧ Trits (add3 c a b).1 ∧ Trit (add3 c a b).2.2 := by
  induction a with
  | nil =>
    intro b c h _ _ hc
    cases b with
    | nil => refine ⟨?_, Trits.nil, hc⟩; simp [add3, val, pow3]
    | cons y ys => simp at h
  | cons x xs ih =>
    intro b c h ha hb hc
    cases b with
    | nil => simp at h
    | cons y ys =>
      have hx := (Trits.cons.1 ha).1
      have hy := (Trits.cons.1 hb).1
      have h1 : Trit (rest3 (x + y + c)) := by unfold Trit rest3 at *; omega
      have := ih ys (rest3 (x + y + c)) (by simpa using h) (Trits.cons.1 ha).2 (Trits.cons.1 hb).2 h1
      refine ⟨?_, Trits.cons.2 ⟨low3_trit _, this.2.1⟩, this.2.2⟩
      have e := this.1
      have e2 := low3_rest3 (x + y + c)
      simp only [add3, val, List.length_cons, pow3]
      rw [Int.mul_assoc]
      generalize pow3 xs.length * (add3 (rest3 (x + y + c)) xs ys).2.2 = t at *
      omega
theorem impl_carried_f (n : Int) (h0 : -4 ≤ n) (h1 : n ≤ 4) : impl_carried.f n = some (low3 n, rest3 n) := by
  unfold impl_carried.f low3 rest3
  by_cases h : n > 1
  · rw [if_pos h, w64 _ (by omega) (by omega)]
    refine congrArg some (Prod.ext ?_ ?_) <;> simp only <;> omega
  · rw [if_neg h]
    by_cases h' : n < -1
    · rw [if_pos h', w64 _ (by omega) (by omega)]
      refine congrArg some (Prod.ext ?_ ?_) <;> simp only <;> omega
    · rw [if_neg h']
      refine congrArg some (Prod.ext ?_ ?_) <;> simp only <;> omega
theorem impl_FullAdd_f (k : Nat) (a b c : Int) (hk : 2000001 ≤ k) (ha : Trit a) (hb : Trit b) (hc : Trit c) : impl_FullAdd.f k a b c = some (low3 (a + b + c), rest3 (a + b + c)) := by
  unfold impl_FullAdd.f
  have ht : Trits [a, b, c] := Trits.cons.2 ⟨ha, Trits.cons.2 ⟨hb, Trits.cons.2 ⟨hc, Trits.nil⟩⟩⟩
  unfold Trit at ha hb hc
  rw [impl_trits_f k [a, b, c] hk (by simp), bsome, if_pos (by simpa using ht), w64 (a + b) (by omega) (by omega), w64 _ (by omega) (by omega), impl_carried_f _ (by omega) (by omega), bsome]
theorem impl_added_l0 (a b : List Int) (hl : a.length ≤ 1000) (hb : a.length = b.length) (ta : Trits a) (tb : Trits b) : ∀ (d k i : Nat) (c : Int) (u v : List Int), i + d = a.length → d + 2000002 < k → u.length ≤ i → v.length ≤ i → Trit c →
    impl_added.l0 k a b c u v (a.length : Int) (i : Int) = some (u ++ (add3 c (a.drop i) (b.drop i)).1, v ++ (add3 c (a.drop i) (b.drop i)).2.1, (add3 c (a.drop i) (b.drop i)).2.2) := by
  intro d
  induction d with
  | zero =>
    intro k i c u v h hk hu hv hc
    obtain ⟨k, rfl⟩ : ∃ m, k = m + 1 := ⟨k - 1, by omega⟩
    rw [impl_added.l0, if_neg (by omega), List.drop_eq_nil_of_le (by omega), List.drop_eq_nil_of_le (by omega)]
    simp [add3]
  | succ d ih =>
    intro k i c u v h hk hu hv hc
    obtain ⟨k, rfl⟩ : ∃ m, k = m + 1 := ⟨k - 1, by omega⟩
    have hx := ta _ (rd_mem a i (by omega))
    have hy := tb _ (rd_mem b i (by omega))
    rw [impl_added.l0, if_pos (by omega), if_pos (by omega), if_pos (by omega), if_pos (by omega), impl_FullAdd_f k _ _ _ (by omega) hx hy hc, bsome, if_pos (by omega), if_pos (by omega), w64 _ (by omega) (by omega)]
    rw [show ((i : Int) + 1) = ((i + 1 : Nat) : Int) from by omega]
    rw [ih k (i + 1) _ _ _ (by omega) (by omega) (by simp; omega) (by simp; omega) (by unfold Trit rest3 at *; omega), drop_rd a i (by omega), drop_rd b i (by omega)]
    simp [add3]
theorem impl_added_f (k : Nat) (a b : List Int) (c : Int) (hk : 3000000 ≤ k) (hl : a.length ≤ 1000) (hb : a.length = b.length) (ta : Trits a) (tb : Trits b) (hc : Trit c) : impl_added.f k a b c = some (add3 c a b) := by
  unfold impl_added.f
  have := impl_added_l0 a b hl hb ta tb a.length k 0 c [] [] (by omega) (by omega) (by simp) (by simp) hc
  simpa using this
theorem impl_negated_l0 (l : List Int) (hl : l.length ≤ 1000) (ht : Trits l) : ∀ (d k i : Nat) (u : List Int), i + d = l.length → d < k → u.length ≤ i →
    impl_negated.l0 k u l (l.length : Int) (i : Int) = some (u ++ (l.drop i).map (fun x => -x)) := by
  intro d
  induction d with
  | zero =>
    intro k i u h hk hu
    obtain ⟨k, rfl⟩ : ∃ m, k = m + 1 := ⟨k - 1, by omega⟩
    rw [impl_negated.l0, if_neg (by omega), List.drop_eq_nil_of_le (by omega)]
    simp
  | succ d ih =>
    intro k i u h hk hu
    obtain ⟨k, rfl⟩ : ∃ m, k = m + 1 := ⟨k - 1, by omega⟩
    have hx := ht _ (rd_mem l i (by omega))
    unfold Trit at hx
    rw [impl_negated.l0, if_pos (by omega), if_pos (by omega), if_pos (by omega), if_pos (by omega), w64 _ (by omega) (by omega), w64 _ (by omega) (by omega), show ((i : Int) + 1) = ((i + 1 : Nat) : Int) from by omega, ih k (i + 1) _ (by omega) (by omega) (by simp; omega), drop_rd l i (by omega)]
    simp
theorem val_neg (w : List Int) : val (w.map (fun x => -x)) = -val w := by
  induction w with
  | nil => rfl
  | cons x w ih => simp only [List.map_cons, val, ih]; omega
theorem impl_highest_l0 (l : List Int) (hl : l.length ≤ 1000) (ht : Trits l) : ∀ (i k : Nat) (x : Int), i ≤ l.length → i < k → x = (i : Int) - 1 → impl_highest.l0 k l x = some (sg (val (l.take i))) := by
  intro i
  induction i with
  | zero =>
    intro k x h hk hx
    obtain ⟨k, rfl⟩ : ∃ m, k = m + 1 := ⟨k - 1, by omega⟩
    rw [impl_highest.l0, if_neg (by omega)]
    rfl
  | succ i ih =>
    intro k x h hk hx
    obtain ⟨k, rfl⟩ : ∃ m, k = m + 1 := ⟨k - 1, by omega⟩
    obtain rfl : x = (i : Int) := by omega
    have hy := ht _ (rd_mem l i (by omega))
    have lt : (l.take i).length = i := by rw [List.length_take]; omega
    have bd := val_bd (l.take i) (ht.take i)
    have p := pow3_lim i
    have va : val (l.take (i + 1)) = val (l.take i) + pow3 i * rd l (i : Int) := by
      rw [take_rd l i (by omega), val_append, lt]
      simp [val]
    rw [lt] at bd
    have ln := lim_nonneg i
    rw [impl_highest.l0, if_pos (by omega), if_pos (by omega), if_pos (by omega), va]
    generalize rd l (i : Int) = y at *
    unfold Trit at hy
    have : y = -1 ∨ y = 0 ∨ y = 1 := by omega
    rcases this with rfl | rfl | rfl
    · rw [if_neg (by omega)]
      unfold sg
      rw [if_pos (by omega)]
    · rw [if_pos rfl, Int.mul_zero, Int.add_zero]
      exact ih k _ (by omega) (by omega) (by rw [w64 _ (by omega) (by omega)])
    · rw [if_neg (by omega)]
      unfold sg
      rw [if_neg (by omega), if_pos (by omega)]
theorem impl_highest_f (k : Nat) (l : List Int) (hk : 2000 ≤ k) (hl : l.length ≤ 1000) (ht : Trits l) : impl_highest.f k l = some (sg (val l)) := by
  unfold impl_highest.f
  have := impl_highest_l0 l hl ht l.length k ((l.length : Int) - 1) (by omega) (by omega) rfl
  rw [List.take_length] at this
  rw [w64 _ (by omega) (by omega), this]
theorem sg_zero (v : Int) : sg v = 0 ↔ v = 0 := by
  unfold sg
  split
  · omega
  · split <;> omega
theorem impl_IsFloat_f (k : Nat) (l : List Int) (e : Int) (hk : 2000001 ≤ k) (hl : l.length ≤ 2000000) : impl_IsFloat.f k l e = some (decide (Fl l e)) := by
  unfold impl_IsFloat.f
  by_cases h6 : (l.length : Int) = 6
  · rw [if_pos h6, impl_trits_f k l hk hl, bsome]
    by_cases ht : Trits l
    · rw [if_pos (by simpa using ht)]
      by_cases h1 : e < -20
      · rw [if_pos h1, decide_eq_false]; intro h; have := h.2.2.1; omega
      · rw [if_neg h1]
        by_cases h2 : e > 20
        · rw [if_pos h2, decide_eq_false]; intro h; have := h.2.2.2.1; omega
        · rw [if_neg h2, if_pos (by omega)]
          have er : rd l 5 = l.getD 5 0 := rfl
          by_cases h3 : rd l 5 = 0
          · rw [if_pos h3, impl_highest_f k l (by omega) (by omega) ht, bsome]
            by_cases h4 : val l = 0
            · rw [if_pos ((sg_zero _).2 h4)]
              congr 1
              by_cases h5 : e = 0
              · subst h5; rw [decide_eq_true]; rfl; exact ⟨by omega, ht, by decide, by decide, .inr ⟨h4, rfl⟩⟩
              · rw [decide_eq_false]; simp [h5]
                intro h; rcases h.2.2.2.2 with h | h
                · exact h (er ▸ h3)
                · exact h5 h.2
            · rw [if_neg (fun h => h4 ((sg_zero _).1 h)), decide_eq_false]
              intro h; rcases h.2.2.2.2 with h | h
              · exact h (er ▸ h3)
              · exact h4 h.1
          · rw [if_neg h3, decide_eq_true]
            exact ⟨by omega, ht, by omega, by omega, .inl (fun h => h3 (er.trans h))⟩
    · rw [if_neg (by simpa using ht), decide_eq_false]; intro h; exact ht h.2.1
  · rw [if_neg h6, decide_eq_false]; intro h; have := h.1; omega
def negF (l : List Int) (e : Int) : List Int × Int := if Fl l e then (l.map (fun x => -x), e) else ([], 0)
theorem fl_neg {l : List Int} {e : Int} (h : Fl l e) : Fl (l.map (fun x => -x)) e := by
  obtain ⟨h1, h2, h3, h4, h5⟩ := h
  refine ⟨by rw [List.length_map, h1], ?_, h3, h4, ?_⟩
  · intro a ha
    obtain ⟨x, hx, rfl⟩ := List.mem_map.1 ha
    have := h2 x hx
    unfold Trit at *
    omega
  · rcases h5 with h5 | h5
    · left
      simp only [List.getD_eq_getElem?_getD, List.getElem?_map] at *
      cases hg : l[5]? with
      | none => rw [hg] at h5; exact absurd rfl h5
      | some y => rw [hg] at h5; simp at h5 ⊢; exact h5
    · right; rw [val_neg]; exact ⟨by omega, h5.2⟩
theorem impl_negated_f (k : Nat) (l : List Int) (hk : 2000 ≤ k) (hl : l.length ≤ 1000) (ht : Trits l) : impl_negated.f k l = some (l.map (fun x => -x)) := by
  unfold impl_negated.f
  have := impl_negated_l0 l hl ht l.length k 0 [] (by omega) (by omega) (by simp)
  simpa using this
theorem impl_NegateFloat_f (k : Nat) (l : List Int) (e : Int) (hk : 2000001 ≤ k) (hl : l.length ≤ 2000000) : impl_NegateFloat.f k l e = some (negF l e) := by
  unfold impl_NegateFloat.f negF
  rw [impl_IsFloat_f k l e hk hl, bsome]
  by_cases h : Fl l e
  · have h6 := h.1
    rw [if_pos (by simpa using h), if_pos h, impl_negated_f k l (by omega) (by omega) h.2.1, bsome]
  · rw [if_neg (by simpa using h), if_neg h]
theorem rd_L2_two (a b : List Int) : rd_L2 [a, b] 0 = a ∧ rd_L2 [a, b] 1 = b := ⟨rfl, rfl⟩
theorem slices_Concat_f2 (k : Nat) (a b : List Int) (hk : 100 ≤ k) (ha : a.length ≤ 2000000) (hb : b.length ≤ 2000000) : slices_Concat_int_int.f k [a, b] = some (a ++ b) := by
  obtain ⟨k, rfl⟩ : ∃ m, k = m + 6 := ⟨k - 6, by omega⟩
  unfold slices_Concat_int_int.f
  have l2 : (([a, b] : List (List Int)).length : Int) = 2 := rfl
  rw [l2, slices_Concat_int_int.l0, l2, if_pos (by omega), if_pos (by omega), if_pos (by omega), (rd_L2_two a b).1, w64 (0 + (a.length : Int)) (by omega) (by omega), if_neg (by omega), w64 (0 + 1) (by omega) (by omega), Int.zero_add, Int.zero_add]
  rw [slices_Concat_int_int.l0, l2, if_pos (by omega), if_pos (by omega), if_pos (by omega), (rd_L2_two a b).2, w64 ((a.length : Int) + (b.length : Int)) (by omega) (by omega), if_neg (by omega), w64 (1 + 1) (by omega) (by omega)]
  rw [slices_Concat_int_int.l0, if_neg (by omega)]
  unfold slices_Grow_int_int.f
  rw [if_pos (by omega), if_pos (by omega), if_pos List.length_nil, bsome, l2]
  rw [slices_Concat_int_int.l1, l2, if_pos (by omega), if_pos (by omega), if_pos (by omega), (rd_L2_two a b).1, if_pos (by rw [List.length_nil]; omega), w64 (0 + 1) (by omega) (by omega), List.nil_append, Int.zero_add]
  rw [slices_Concat_int_int.l1, l2, if_pos (by omega), if_pos (by omega), if_pos (by omega), (rd_L2_two a b).2, if_pos (by omega), w64 (1 + 1) (by omega) (by omega)]
  rw [slices_Concat_int_int.l1, if_neg (by omega)]
theorem cut_end (k : Nat) (w : List Int) (e : Int) (hk : 2000100 ≤ k) (hl : w.length ≤ 100) (ht : Trits w) (h0 : -1000 ≤ e) (h1 : e ≤ 1000) : impl_cut.j1 (k + 1) w e (tops w : Int) = some (flo (val w) e) := by
  have htl := tops_le w
  rw [impl_cut.j1]
  by_cases hz : tops w = 0
  · rw [if_pos (by omega), if_pos (by decide), (val_tops w).2 hz]
    rfl
  · have hv : val w ≠ 0 := by intro h; have := tops_len3 w ht; rw [h, len3_zero] at this; omega
    have hlen := tops_len3 w ht
    rw [if_neg (by omega), if_pos (by decide), if_pos (by omega), if_pos (by omega), Int.toNat_natCast, take_tops w ht, slices_Concat_f2 k _ _ (by omega) (by simp) (by rw [length_word]; omega), bsome]
    rw [if_pos (by rw [List.length_append, List.length_replicate, length_word]; omega)]
    have ed : (List.replicate 6 0 ++ word (val w) (len3 (val w))).drop (tops w) = digs (val w) := by unfold digs; rw [hlen]
    unfold slices_Clone_int_int.f
    rw [ed, if_pos (by rw [digs_len]; decide), bsome, w64 (e + (tops w : Int)) (by omega) (by omega), w64 _ (by omega) (by omega), impl_IsFloat_f k _ _ (by omega) (by rw [digs_len]; decide), bsome]
    unfold flo
    rw [if_neg hv, hlen]
    by_cases hr : -20 ≤ e + (tops w : Int) - 6 ∧ e + (tops w : Int) - 6 ≤ 20
    · rw [if_pos (by simpa [fl_digs hv] using hr), if_pos hr]
    · rw [if_neg (by simpa [fl_digs hv] using hr), if_neg hr]
theorem impl_cut_f (k : Nat) (w : List Int) (e : Int) (hk : 2000300 ≤ k) (hl : w.length ≤ 100) (ht : Trits w) (h0 : -1000 ≤ e) (h1 : e ≤ 1000) : impl_cut.f k w e = some (flo (val w) e) := by
  have htl := tops_le w
  have key : ∀ (d k i : Nat), i = tops w + d → i ≤ w.length → d + 2000150 < k → impl_cut.l0 k w e (i : Int) = some (flo (val w) e) := by
    intro d
    induction d with
    | zero =>
      intro k i hi hle hk
      obtain ⟨k, rfl⟩ : ∃ m, k = m + 2 := ⟨k - 2, by omega⟩
      rw [impl_cut.l0]
      have hj := cut_end k w e (by omega) hl ht h0 h1
      obtain rfl : i = tops w := by omega
      by_cases hz : tops w = 0
      · rw [if_neg (by omega), hj]
      · obtain ⟨n, hn⟩ : ∃ n, tops w = n + 1 := ⟨tops w - 1, by omega⟩
        have hne := tops_last w n hn
        rw [if_pos (by omega), w64 _ (by omega) (by omega), if_pos (by omega), if_pos (by omega), show ((tops w : Nat) : Int) - 1 = (n : Int) by omega, rd_nat, if_neg hne, hj]
    | succ d ih =>
      intro k i hi hle hk
      obtain ⟨k, rfl⟩ : ∃ m, k = m + 1 := ⟨k - 1, by omega⟩
      obtain ⟨n, rfl⟩ : ∃ n, i = n + 1 := ⟨i - 1, by omega⟩
      have hz := getD_tops w n (by omega)
      rw [impl_cut.l0, if_pos (by omega), w64 _ (by omega) (by omega), if_pos (by omega), if_pos (by omega), show ((n + 1 : Nat) : Int) - 1 = (n : Int) by omega, rd_nat, if_pos hz]
      exact ih k n (by omega) (by omega) (by omega)
  unfold impl_cut.f
  exact key (w.length - tops w) k w.length (by omega) (Nat.le_refl _) (by omega)
def floatOf (n e : Int) : List Int × Int × Bool := if -100 ≤ e ∧ e ≤ 100 ∧ -lim 30 ≤ n ∧ n ≤ lim 30 then flo n e else ([], 0, false)
theorem impl_floated_f (k : Nat) (n e : Int) (hk : 2000300 ≤ k) (h0 : -1000 ≤ e) (h1 : e ≤ 1000) : impl_floated.f k n e = some (if -lim 30 ≤ n ∧ n ≤ lim 30 then flo n e else ([], 0, false)) := by
  unfold impl_floated.f
  rw [impl_WordOf_f k n 30 (by omega) (by omega), bsome]
  by_cases h : -lim 30 ≤ n ∧ n ≤ lim 30
  · rw [wordOf_yes (n := n) (k := 30) (by decide) (by decide) h.1 h.2, if_pos rfl, if_pos h, impl_cut_f k _ e hk (by rw [length_word]; decide) (trits_word _ _) h0 h1, bsome, show (30 : Int).toNat = 30 from rfl, val_word 30 n h.1 h.2]
  · have e0 : wordOf n 30 = ([], false) := if_neg (fun hh => h hh.2.2)
    rw [e0, if_neg h]
    rfl
theorem impl_FloatOf_f (k : Nat) (n e : Int) (hk : 2000300 ≤ k) : impl_FloatOf.f k n e = some (floatOf n e) := by
  unfold impl_FloatOf.f floatOf
  by_cases h0 : e < -100
  · rw [if_pos h0, if_neg (by omega)]
  · rw [if_neg h0]
    by_cases h1 : e > 100
    · rw [if_pos h1, if_neg (by omega)]
    · rw [if_neg h1, impl_floated_f k n e hk (by omega) (by omega), bsome]
      by_cases h : -lim 30 ≤ n ∧ n ≤ lim 30
      · rw [if_pos h, if_pos (by omega)]
      · rw [if_neg h, if_neg (by omega)]
def wideL (l : List Int) (e : Int) : List Int := List.replicate (e + 20).toNat 0 ++ (l ++ List.replicate (22 - e).toNat 0)
theorem impl_wide_f (l : List Int) (e : Int) (h : Fl l e) : impl_wide.f l e = some (wideL l e) := by
  unfold impl_wide.f
  rw [if_pos h.2.2.1, if_pos h.2.2.2.1, if_pos h.1]
  rfl
theorem wideL_facts {l : List Int} {e : Int} (h : Fl l e) : (wideL l e).length = 48 ∧ Trits (wideL l e) ∧ val (wideL l e) = val l * pow3 (e + 20).toNat := by
  have r := h.2.2
  have h6 := h.1
  have z : ∀ n : Nat, Trits (List.replicate n 0) := fun n a ha => by rw [(List.mem_replicate.1 ha).2]; decide
  refine ⟨?_, (z _).append (h.2.1.append (z _)), ?_⟩
  · unfold wideL; simp only [List.length_append, List.length_replicate]; omega
  · unfold wideL
    rw [val_append, val_append, val_reps, val_reps, List.length_replicate, Int.mul_zero, Int.add_zero, Int.zero_add, Int.mul_comm]
theorem impl_difference_f (k : Nat) (a : List Int) (ea : Int) (b : List Int) (eb : Int) (hk : 3000000 ≤ k) (ha : Fl a ea) (hb : Fl b eb) :
    ∃ s, impl_difference.f k a ea b eb = some s ∧ s.length = 48 ∧ Trits s ∧ val s = sumF (val a) ea (-(val b)) eb := by
  have wa := wideL_facts ha
  have wb := wideL_facts hb
  have tn : Trits ((wideL b eb).map (fun x => -x)) := by
    intro y hy
    obtain ⟨x, hx, rfl⟩ := List.mem_map.1 hy
    have := wb.2.1 x hx
    unfold Trit at *; omega
  have hv := add3_val (wideL a ea) ((wideL b eb).map (fun x => -x)) 0 (by rw [List.length_map, wa.1, wb.1]) wa.2.1 tn (by decide)
  have hl := add3_len (wideL a ea) ((wideL b eb).map (fun x => -x)) 0 (by rw [List.length_map, wa.1, wb.1])
  refine ⟨(add3 0 (wideL a ea) ((wideL b eb).map (fun x => -x))).1, ?_, by rw [hl.1, wa.1], hv.2.1, ?_⟩
  · unfold impl_difference.f
    rw [impl_wide_f a ea ha, bsome, impl_wide_f b eb hb, bsome, impl_negated_f k _ (by omega) (by rw [wb.1]; decide) wb.2.1, bsome, impl_added_f k _ _ 0 hk (by rw [wa.1]; decide) (by rw [List.length_map, wa.1, wb.1]) wa.2.1 tn (by decide), bsome]
  · have e1 := hv.1
    rw [wa.1, val_neg, wa.2.2, wb.2.2] at e1
    have b1 := sumF_bd ha
    have b2 := sumF_bd hb
    have bs := val_bd _ hv.2.1
    rw [hl.1, wa.1] at bs
    have hc := hv.2.2
    unfold Trit at hc
    have p := pow3_lim 48
    have l48 : lim 48 = 9 * lim 46 + 4 := by simp only [lim]; omega
    have ln := lim_nonneg 46
    unfold sumF
    rw [Int.neg_mul]
    generalize (add3 0 (wideL a ea) ((wideL b eb).map (fun x => -x))).2.2 = c at *
    generalize val (add3 0 (wideL a ea) ((wideL b eb).map (fun x => -x))).1 = s at *
    generalize val a * pow3 (ea + 20).toNat = x at *
    generalize val b * pow3 (eb + 20).toNat = y at *
    have : c = -1 ∨ c = 0 ∨ c = 1 := by omega
    rcases this with rfl | rfl | rfl <;> omega
def cmpF (a : List Int) (ea : Int) (b : List Int) (eb : Int) : Int := if Fl a ea ∧ Fl b eb then sg (sumF (val a) ea (-(val b)) eb) else 0
theorem impl_CompareFloats_f (k : Nat) (a : List Int) (ea : Int) (b : List Int) (eb : Int) (hk : 3000001 ≤ k) (la : a.length ≤ 2000000) (lb : b.length ≤ 2000000) : impl_CompareFloats.f k a ea b eb = some (cmpF a ea b eb) := by
  obtain ⟨k, rfl⟩ : ∃ m, k = m + 1 := ⟨k - 1, by omega⟩
  unfold impl_CompareFloats.f cmpF
  rw [impl_IsFloat_f _ a ea (by omega) la, bsome]
  by_cases ha : Fl a ea
  · rw [if_pos (by simpa using ha), impl_IsFloat_f _ b eb (by omega) lb, bsome, impl_CompareFloats.j0]
    by_cases hb : Fl b eb
    · obtain ⟨s, e1, e2, e3, e4⟩ := impl_difference_f k a ea b eb (by omega) ha hb
      rw [if_neg (by simp [hb]), e1, bsome, impl_highest_f k s (by omega) (by omega) e3, bsome, if_pos ⟨ha, hb⟩, e4]
    · rw [if_pos (by simp [hb]), if_neg (fun h => hb h.2)]
  · rw [if_neg (by simpa using ha), impl_CompareFloats.j0, if_pos rfl, if_neg (fun h => ha h.1)]
theorem spec_l01Once_f (b : List Int) (i h n : Int) (hb : b.length ≤ 2000000) (hi : 0 ≤ i) (h1 : 1 ≤ n) (h2 : n ≤ 256) : ∃ r i' h', spec_l01Once.f b i h n = some (r, i', h') ∧ 0 ≤ i' := by
  obtain ⟨r, i', h', e, _, hi'⟩ := spec_l01Below_f b i h n hb hi h1 h2
  exact ⟨_, i', h', by unfold spec_l01Once.f; rw [e, bsome], hi'⟩
theorem spec_l01Int4_f (b : List Int) (i h : Int) (hb : b.length ≤ 2000000) (hi : 0 ≤ i) : ∃ r i' h', spec_l01Int.f b i h [20, (-20), 19, (-19)] = some (r, i', h') ∧ (-20 ≤ r ∧ r ≤ 20) ∧ 0 ≤ i' := by
  obtain ⟨r, i', h', e, hr, hi'⟩ := spec_l01Below_f b i h 4 hb hi (by omega) (by omega)
  refine ⟨rd [20, (-20), 19, (-19)] r, i', h', ?_, ?_, hi'⟩
  · unfold spec_l01Int.f
    rw [show (([20, (-20), 19, (-19)] : List Int).length : Int) = 4 from rfl, e, bsome, if_pos hr.1, if_pos hr.2]
  · have : r = 0 ∨ r = 1 ∨ r = 2 ∨ r = 3 := by omega
    rcases this with rfl | rfl | rfl | rfl <;> decide
theorem l5Draw_j1 (k : Nat) (b : List Int) (i h : Int) (d : List Int) (e : Int) (hb : b.length ≤ 2000000) (hi : 0 ≤ i) (hd : Fl d e) : ∃ d' e' i' h', spec_l5Draw.j1 (k + 1) b i h d e = some (d', e', i', h') ∧ Fl d' e' := by
  obtain ⟨r, i', h', er, hi'⟩ := spec_l01Once_f b i h 10 hb hi (by omega) (by omega)
  rw [spec_l5Draw.j1, er, bsome]
  cases r with
  | true =>
    refine ⟨List.replicate 6 0, 0, i', h', rfl, by simp, ?_, by decide, by decide, .inr ⟨by decide, rfl⟩⟩
    intro a ha; rw [(List.mem_replicate.1 ha).2]; decide
  | false => exact ⟨d, e, i', h', rfl, hd⟩
theorem l5Draw_l0 (b : List Int) (hb : b.length ≤ 2000000) (e : Int) (he0 : -20 ≤ e) (he1 : e ≤ 20) : ∀ (m k n : Nat) (i h : Int) (d : List Int), n + m = 6 → m + 10 < k → 0 ≤ i → d.length = n → Trits d →
    ∃ d' e' i' h', spec_l5Draw.l0 k (n : Int) b i h d e = some (d', e', i', h') ∧ Fl d' e' := by
  intro m
  induction m with
  | zero =>
    intro k n i h d hn hk hi hl ht
    obtain ⟨k, rfl⟩ : ∃ m, k = m + 2 := ⟨k - 2, by omega⟩
    obtain ⟨r, i1, h1, e1, hr, hi1⟩ := spec_l01Below_f b i h 2 hb hi (by omega) (by omega)
    obtain ⟨s, i2, h2, e2, hi2⟩ := spec_l01Once_f b i1 h1 8 hb hi1 (by omega) (by omega)
    obtain ⟨z, i3, h3, e3, hz, hi3⟩ := spec_l01Int4_f b i2 h2 hb hi2
    have hset : ∀ x, -20 ≤ x → x ≤ 20 → Fl (d.set 5 (wrap64 (1 - (wrap64 (2 * r))))) x := by
      intro x x0 x1
      have hw : wrap64 (1 - (wrap64 (2 * r))) = 1 - 2 * r := by rw [w64 (2 * r) (by omega) (by omega), w64 (1 - 2 * r) (by omega) (by omega)]
      rw [hw]
      refine ⟨by rw [List.length_set]; omega, ?_, x0, x1, .inl ?_⟩
      · intro a ha
        rcases List.mem_or_eq_of_mem_set ha with h | h
        · exact ht a h
        · subst h; unfold Trit; omega
      · rw [List.getD_eq_getElem?_getD, List.getElem?_set_self (by omega)]
        show 1 - 2 * r ≠ 0
        omega
    rw [spec_l5Draw.l0, if_neg (by omega), e1, bsome, if_pos (by omega), bsome, e2, bsome, show (5 : Int).toNat = 5 from rfl]
    cases s with
    | true =>
      rw [if_pos rfl, e3, bsome]
      exact l5Draw_j1 k b i3 h3 _ _ hb hi3 (hset z hz.1 hz.2)
    | false =>
      rw [if_neg (by simp)]
      exact l5Draw_j1 k b i2 h2 _ _ hb hi2 (hset e he0 he1)
  | succ m ih =>
    intro k n i h d hn hk hi hl ht
    obtain ⟨k, rfl⟩ : ∃ m, k = m + 1 := ⟨k - 1, by omega⟩
    obtain ⟨r, i1, h1, e1, hr, hi1⟩ := spec_l01Below_f b i h 3 hb hi (by omega) (by omega)
    rw [spec_l5Draw.l0, if_pos (by omega), e1, bsome, if_pos (by omega), w64 (r - 1) (by omega) (by omega), w64 ((n : Int) + 1) (by omega) (by omega), show (n : Int) + 1 = ((n + 1 : Nat) : Int) by omega]
    refine ih k (n + 1) i1 h1 (d ++ [r - 1]) (by omega) (by omega) hi1 (by rw [List.length_append, hl]; rfl) ?_
    refine ht.append ?_
    intro a ha
    rw [List.mem_singleton.1 ha]
    unfold Trit; omega
theorem spec_MakeFloating_f (k : Nat) (l : List Int) (hk : 2000002 ≤ k) (hl : l.length ≤ 2000000) : ∃ d e, spec_MakeFloating.f k l = some (d, e) ∧ Fl d e := by
  obtain ⟨h, eh⟩ := spec_l01New_f k l hk hl
  obtain ⟨r, i1, h1, e1, hr, hi1⟩ := spec_l01Below_f l 0 h 13 hl (by omega) (by omega) (by omega)
  obtain ⟨d', e', i', h', e2, hf⟩ := l5Draw_l0 l hl (r - 6) (by omega) (by omega) 6 k 0 i1 h1 [] (by omega) (by omega) hi1 rfl Trits.nil
  refine ⟨d', e', ?_, hf⟩
  unfold spec_MakeFloating.f spec_l5Draw.f
  rw [eh, bsome, e1, bsome, w64 (r - 6) (by omega) (by omega)]
  rw [show ((0 : Nat) : Int) = 0 from rfl] at e2
  rw [e2, bsome]
theorem floatOf_small (n : Int) (h0 : -364 ≤ n) (h1 : n ≤ 364) : ∃ d p, floatOf n 0 = (d, -((p : Nat) : Int), true) ∧ val d = n * pow3 p ∧ p ≤ 6 ∧ Fl d (-(p : Int)) ∧ val (d.drop p) = n := by
  obtain ⟨d, p, h⟩ := flo_small n h0 h1
  refine ⟨d, p, ?_, h.2⟩
  unfold floatOf
  rw [if_pos ⟨by decide, by decide, by rw [lim30]; omega, by rw [lim30]; omega⟩]
  exact h.1
/-- The inputs number x of n lines. -/
def digs : Nat → Nat → List Int
  | 0, _ => []
  | n + 1, x => (((x % 3 : Nat) : Int) - 1) :: digs n (x / 3)
theorem digs_len : ∀ n x, (digs n x).length = n
  | 0, _ => rfl
  | n + 1, x => by rw [digs, List.length_cons, digs_len n]
end FnSinglesParts
open FnSinglesParts
attribute [local congr] bind_left

theorem sng_Fl (k : Nat) (d : List Int) (e : Int) (hk : 3000000 ≤ k) (h : Fl d e) : Sng k d e (val d) := by
  have l6 := h.1
  refine ⟨by rw [impl_IsFloat_f k d e (by omega) (by omega), decide_eq_true h], impl_value_f k d (by omega) (by omega) h.2.1.digs, ?_⟩
  rcases h.zero_or with ⟨a, _, c⟩ | ⟨a, b, _⟩
  · exact .inl ⟨a, c⟩
  · have g := len3_gt (n := val d) (k := 5) (by omega)
    have bd := val_bd d h.2.1
    rw [l6, show lim 6 = 364 by decide] at bd
    rw [show lim 5 = 121 by decide] at g
    exact .inr ⟨by omega, h.2.2.1, h.2.2.2.1⟩
theorem FnSingles : laws_FnSingles.Pure := by
  intro l hl hwf
  by_cases h : (l.length : Int) > 1048576
  · exact .inl h
  right
  refine ⟨h, 100000000, ?_⟩
  obtain ⟨la, ea, e1, fa⟩ := spec_MakeFloating_f 100000000 l (by omega) (by omega)
  obtain ⟨fr, e2, lf⟩ := laws_fresh_f 100000000 l 3 (by omega) (by omega)
  obtain ⟨lb, eb, e3, fb⟩ := spec_MakeFloating_f 100000000 fr (by omega) (by omega)
  obtain ⟨t, e6, t0, t1⟩ := laws_at_f l 1 (by omega) hwf (by omega) (by omega)
  have hn : wrap64 (wrap64 (t * 2) - 255) = t * 2 - 255 := by rw [w64 (t * 2) (by omega) (by omega), w64 _ (by omega) (by omega)]
  obtain ⟨d, p, e7, vd, hp, fd, _⟩ := floatOf_small (t * 2 - 255) (by omega) (by omega)
  have la6 := fa.1
  have lb6 := fb.1
  refine ⟨la, lb, fr, d, la.map (fun x => -x), ea, eb, -(p : Int), ea, t, _, val la, val lb, val d, e1, e2, e3, e6, ?_, impl_CompareFloats_f _ la ea lb eb (by omega) (by omega) (by omega), ?_, sng_Fl _ la ea (by omega) fa, sng_Fl _ lb eb (by omega) fb, ?_, rfl, ?_, ?_⟩
  · rw [hn, impl_FloatOf_f _ _ _ (by omega), e7]
  · rw [impl_NegateFloat_f _ la ea (by omega) (by omega)]
    unfold negF
    rw [if_pos fa]
  · have := sng_Fl 100000000 _ ea (by omega) (fl_neg fa)
    rw [val_neg] at this
    exact this
  · unfold cmpF
    rw [if_pos ⟨fa, fb⟩]
    unfold sumF SV
    rw [Int.neg_mul]
    rfl
  · intro hz
    have p0 : p = 0 := by omega
    subst p0
    have vd' : val d = t * 2 - 255 := by rw [vd]; simp [pow3]
    have s := sng_Fl 100000000 d _ (by omega) fd
    refine ⟨s, by rw [hn]; exact vd', ?_⟩
    rcases s.2.2 with ⟨a, _⟩ | ⟨a, _⟩
    · omega
    · omega

end Go.Proofs.Ytffhddibgfaopaa.Pure
