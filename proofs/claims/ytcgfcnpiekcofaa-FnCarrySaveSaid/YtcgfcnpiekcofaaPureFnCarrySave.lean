/- For every text of draws: the sum by carry-save has the right value, in any order of the words, and in few rounds; no condition. -/
import Derived.Test.YtcgfcnpiekcofaaPc6
import Derived.Test.YtcgfcnpiekcofaaGlue
namespace Go.Proofs.Ytcgfcnpiekcofaa.Pure
open Go.RowKit Go.Proofs.Ytcgfcnpiekcofaa.Tern Go.Proofs.Ytcgfcnpiekcofaa.P Go.Proofs.YtcgfcnpiekcofaaW.PrintWords Go.Proofs.YtcgfcnpiekcofaaW.PrintLast
set_option linter.unusedVariables false
set_option linter.unusedSimpArgs false

namespace FnCarrySaveParts
theorem impl_IsTrit_f (a : Int) : impl_IsTrit.f a = some (decide (Trit a)) := by
  unfold impl_IsTrit.f Trit
  split
  · rename_i h
    simp [show -1 ≤ a from h]
  · rename_i h
    have : ¬ (-1 ≤ a) := h
    simp [this]
theorem impl_trits_l0 (l : List Int) (hl : l.length ≤ 2000000) : ∀ (d k i : Nat), i + d = l.length → d < k →
    impl_trits.l0 k l (l.length : Int) (i : Int) = some (decide (Trits (l.drop i))) := by
  intro d
  induction d with
  | zero =>
    intro k i h hk
    obtain ⟨k, rfl⟩ : ∃ m, k = m + 1 := ⟨k - 1, by omega⟩
    simp only [impl_trits.l0]
    rw [if_neg (by omega), List.drop_eq_nil_of_le (by omega)]
    simp [Trits.nil]
  | succ d ih =>
    intro k i h hk
    obtain ⟨k, rfl⟩ : ∃ m, k = m + 1 := ⟨k - 1, by omega⟩
    simp only [impl_trits.l0]
    rw [if_pos (by omega), if_pos (by omega), if_pos (by omega), impl_IsTrit_f, drop_rd l i (by omega)]
    simp only [bsome, Trits.cons]
    by_cases ht : Trit (rd l (i : Int))
    · rw [if_pos (by simpa using ht), w64 _ (by omega) (by omega)]
      have := ih k (i + 1) (by omega) (by omega)
      rw [show ((i + 1 : Nat) : Int) = (i : Int) + 1 from by omega] at this
      rw [this]; simp [ht]
    · rw [if_neg (by simpa using ht)]; simp [ht]
theorem impl_trits_f (k : Nat) (l : List Int) (hk : 2000001 ≤ k) (hl : l.length ≤ 2000000) : impl_trits.f k l = some (decide (Trits l)) := by
  unfold impl_trits.f
  have := impl_trits_l0 l hl l.length k 0 (by omega) (by omega)
  simpa using this
theorem impl_IsWord_f (k : Nat) (l : List Int) (hk : 2000001 ≤ k) (hl : l.length ≤ 2000000) : impl_IsWord.f k l = some (decide (Word l)) := by
  unfold impl_IsWord.f Word
  rw [impl_trits_f k l hk hl]
  by_cases h1 : 1 ≤ l.length
  · rw [if_pos (by omega)]
    by_cases h2 : l.length ≤ 30
    · rw [if_pos (by omega)]; simp [h1, h2]
    · rw [if_neg (by omega)]; simp [h2]
  · rw [if_neg (by omega)]; simp [h1]
theorem impl_value_l0 (l : List Int) (hl : l.length ≤ 30) (hb : Digs l) : ∀ (n k : Nat) (x : Int), n ≤ l.length → n < k → x = (n : Int) - 1 →
    impl_value.l0 k l (val (l.drop n)) x = some (val l) := by
  intro n
  induction n with
  | zero =>
    intro k x h hk hx
    obtain ⟨k, rfl⟩ : ∃ m, k = m + 1 := ⟨k - 1, by omega⟩
    simp only [impl_value.l0]
    rw [if_neg (by omega), List.drop_zero]
  | succ n ih =>
    intro k x h hk hx
    obtain ⟨k, rfl⟩ : ∃ m, k = m + 1 := ⟨k - 1, by omega⟩
    obtain rfl : x = (n : Int) := by omega
    have b1 := val_drop_bd l hl hb (n + 1)
    have b2 := hb _ (rd_mem l n (by omega))
    simp only [impl_value.l0]
    rw [if_pos (by omega), if_pos (by omega), if_pos (by omega), w64 (3 * _) (by omega) (by omega), w64 _ (by omega) (by omega), w64 _ (by omega) (by omega)]
    have e : val (l.drop n) = 3 * val (l.drop (n + 1)) + rd l (n : Int) := by rw [drop_rd l n (by omega)]; simp only [val]; omega
    rw [← e]
    exact ih k _ (by omega) (by omega) rfl
theorem impl_value_f (k : Nat) (l : List Int) (hk : 31 ≤ k) (hl : l.length ≤ 30) (hb : Digs l) : impl_value.f k l = some (val l) := by
  unfold impl_value.f
  have := impl_value_l0 l hl hb l.length k (wrap64 ((l.length : Int) - 1)) (Nat.le_refl _) (by omega) (w64 _ (by omega) (by omega))
  rw [List.drop_length] at this
  exact this
theorem impl_ValueOf_f (k : Nat) (l : List Int) (hk : 2000001 ≤ k) (hl : l.length ≤ 2000000) : impl_ValueOf.f k l = some (if Word l then val l else 0) := by
  unfold impl_ValueOf.f
  rw [impl_IsWord_f k l hk hl]
  by_cases h : Word l
  · simp [h, impl_value_f k l (by omega) h.2.1 h.2.2.digs]
  · simp [h]
theorem impl_power_l0 (a : Int) (ha : a ≤ 30) : ∀ (d k i : Nat), (i : Int) + d = a → d < k → impl_power.l0 k (pow3 i) a (i : Int) = some (pow3 a.toNat) := by
  intro d
  induction d with
  | zero =>
    intro k i h hk
    obtain ⟨k, rfl⟩ : ∃ m, k = m + 1 := ⟨k - 1, by omega⟩
    simp only [impl_power.l0]
    rw [if_neg (by omega), show a.toNat = i from by omega]
  | succ d ih =>
    intro k i h hk
    obtain ⟨k, rfl⟩ : ∃ m, k = m + 1 := ⟨k - 1, by omega⟩
    have h1 := pow3_pos i
    have h2 : pow3 i ≤ pow3 30 := pow3_mono (by omega)
    rw [pow3_30] at h2
    simp only [impl_power.l0]
    rw [if_pos (by omega), w64 _ (by omega) (by omega), w64 _ (by omega) (by omega)]
    have := ih k (i + 1) (by omega) (by omega)
    simp only [pow3] at this
    rw [show pow3 i * 3 = 3 * pow3 i from by omega, show (i : Int) + 1 = ((i + 1 : Nat) : Int) from by omega]
    exact this
theorem impl_power_f (k : Nat) (a : Int) (hk : 31 ≤ k) (ha : a ≤ 30) : impl_power.f k a = some (pow3 a.toNat) := by
  unfold impl_power.f
  by_cases h : 0 ≤ a
  · exact impl_power_l0 a ha a.toNat k 0 (by omega) (by omega)
  · obtain ⟨k, rfl⟩ : ∃ m, k = m + 1 := ⟨k - 1, by omega⟩
    simp only [impl_power.l0]
    rw [if_neg (by omega), show a.toNat = 0 from by omega]; rfl
theorem impl_LimitOf_f (k : Nat) (a : Int) (hk : 31 ≤ k) : impl_LimitOf.f k a = some (if 1 ≤ a ∧ a ≤ 30 then lim a.toNat else 0) := by
  unfold impl_LimitOf.f
  by_cases h1 : a < 1
  · rw [if_pos h1, if_neg (by omega)]
  · rw [if_neg h1]
    by_cases h2 : a > 30
    · rw [if_pos h2, if_neg (by omega)]
    · rw [if_neg h2, impl_power_f k a hk (by omega), if_pos (by omega)]
      have h3 := pow3_lim a.toNat
      have h4 := lim_nonneg a.toNat
      have h5 : lim a.toNat ≤ lim 30 := lim_mono (by omega)
      rw [lim30] at h5
      simp only [bsome]
      rw [w64 (pow3 _ - 1) (by omega) (by omega), h3, show 2 * lim a.toNat + 1 - 1 = 2 * lim a.toNat from by omega, Int.mul_tdiv_cancel_left _ (by omega), w64 _ (by omega) (by omega)]
theorem bits_and255 (x : Int) : 0 ≤ Go.bits .and .i64 x 255 ∧ Go.bits .and .i64 x 255 ≤ 255 := by
  have h : (BitVec.ofInt 64 x &&& BitVec.ofInt 64 255).toNat ≤ 255 := by
    rw [BitVec.toNat_and]
    exact Nat.le_trans Nat.and_le_right (by decide)
  have e : Go.bits .and .i64 x 255 = IntKind.i64.wrap ((BitVec.ofInt 64 x &&& BitVec.ofInt 64 255).toNat : Int) := rfl
  rw [e, IntKind.wrap_i64]
  omega
theorem spec_l01Byte_f (b : List Int) (i h : Int) (hb : b.length ≤ 2000000) (hi : 0 ≤ i) : ∃ r i' h', spec_l01Byte.f b i h = some (r, i', h') ∧ (0 ≤ r ∧ r ≤ 255) ∧ 0 ≤ i' := by
  unfold spec_l01Byte.f
  by_cases c : i < (b.length : Int)
  · rw [if_pos c, if_pos hi, w64 (i + 1) (by omega) (by omega)]
    exact ⟨_, _, _, rfl, bits_and255 _, by omega⟩
  · rw [if_neg c]
    exact ⟨_, _, _, rfl, bits_and255 _, hi⟩
theorem spec_l01Below_f (b : List Int) (i h n : Int) (hb : b.length ≤ 2000000) (hi : 0 ≤ i) (h1 : 1 ≤ n) (h2 : n ≤ 256) : ∃ r i' h', spec_l01Below.f b i h n = some (r, i', h') ∧ (0 ≤ r ∧ r < n) ∧ 0 ≤ i' := by
  obtain ⟨r, i', h', e, hr, hi'⟩ := spec_l01Byte_f b i h hb hi
  unfold spec_l01Below.f
  rw [if_neg (by omega), if_pos h2, e, bsome, if_neg (by omega)]
  refine ⟨_, _, _, rfl, ?_, hi'⟩
  show 0 ≤ Int.tmod r n ∧ Int.tmod r n < n
  exact (tmod_range (n := r) (by omega)).1 hr.1
theorem spec_l01New_f (k : Nat) (l : List Int) (hk : 2000002 ≤ k) (hl : l.length ≤ 2000000) : ∃ h, spec_l01New.f k l = some (l, 0, h) := by
  have key : ∀ (d k i : Nat) (h : Int), i + d = l.length → d < k → ∃ h', spec_l01New.l0 k l h (i : Int) = some (l, 0, h') := by
    intro d
    induction d with
    | zero =>
      intro k i h e hk
      obtain ⟨k, rfl⟩ : ∃ m, k = m + 1 := ⟨k - 1, by omega⟩
      rw [spec_l01New.l0, if_neg (by omega)]
      exact ⟨_, rfl⟩
    | succ d ih =>
      intro k i h e hk
      obtain ⟨k, rfl⟩ : ∃ m, k = m + 1 := ⟨k - 1, by omega⟩
      rw [spec_l01New.l0, if_pos (by omega)]
      by_cases c : (i : Int) < 4000
      · rw [if_pos c, if_pos (by omega), w64 ((i : Int) + 1) (by omega) (by omega), show (i : Int) + 1 = ((i + 1 : Nat) : Int) from by omega]
        exact ih k (i + 1) _ (by omega) (by omega)
      · rw [if_neg c]
        exact ⟨_, rfl⟩
  unfold spec_l01New.f
  exact key l.length k 0 _ (by omega) (by omega)
theorem laws_fresh_f (k : Nat) (l : List Int) (m : Int) (hk : 2000002 ≤ k) (hl : l.length ≤ 2000000) : ∃ c, laws_fresh.f k l m = some c ∧ c.length ≤ 1000 := by
  have key : ∀ (d k i : Nat) (acc : List Int), i + d = l.length → d < k → acc.length = i + 1 → i ≤ 600 → ∃ c, laws_fresh.l0 k l m acc (i : Int) = some c ∧ c.length ≤ 1000 := by
    intro d
    induction d with
    | zero =>
      intro k i acc e hk ha hi
      obtain ⟨k, rfl⟩ : ∃ m, k = m + 1 := ⟨k - 1, by omega⟩
      rw [laws_fresh.l0, if_neg (by omega)]
      exact ⟨acc, rfl, by omega⟩
    | succ d ih =>
      intro k i acc e hk ha hi
      obtain ⟨k, rfl⟩ : ∃ m, k = m + 1 := ⟨k - 1, by omega⟩
      rw [laws_fresh.l0, if_pos (by omega)]
      by_cases c : (i : Int) < 600
      · rw [if_pos c, if_pos (by omega), if_pos (by omega), w64 ((i : Int) + 1) (by omega) (by omega), show (i : Int) + 1 = ((i + 1 : Nat) : Int) from by omega]
        exact ih k (i + 1) _ (by omega) (by omega) (by simp [ha]) (by omega)
      · rw [if_neg c]
        exact ⟨acc, rfl, by omega⟩
  unfold laws_fresh.f
  exact key l.length k 0 _ (by omega) (by omega) (by simp) (by omega)
theorem laws_at_f (l : List Int) (i : Int) (hl : l.length ≤ 2000000) (hw : ∀ x ∈ l, (Lit.int .u8 x).wf = true) (h0 : 0 ≤ i) (h1 : i ≤ 1000) : ∃ v, laws_at.f l i = some v ∧ 0 ≤ v ∧ v ≤ 255 := by
  unfold laws_at.f
  by_cases c : i < (l.length : Int)
  · have := wf8 (hw _ (rd_mem l i.toNat (by omega)))
    rw [show ((i.toNat : Nat) : Int) = i from by omega] at this
    rw [if_pos c, if_pos h0, w64 _ (by omega) (by omega)]
    exact ⟨_, rfl, this⟩
  · rw [if_neg c, w64 (i * 37) (by omega) (by omega), w64 ((l.length : Int) * 11) (by omega) (by omega), w64 _ (by omega) (by omega)]
    have := (tmod_range (n := i * 37 + (l.length : Int) * 11) (m := 256) (by omega)).1 (by omega)
    exact ⟨_, rfl, by omega, by omega⟩
def add3 (c : Int) : List Int → List Int → List Int × List Int × Int
  | x :: xs, y :: ys => (low3 (x + y + c) :: (add3 (rest3 (x + y + c)) xs ys).1, c :: (add3 (rest3 (x + y + c)) xs ys).2.1, (add3 (rest3 (x + y + c)) xs ys).2.2)
  | _, _ => ([], [], c)
theorem add3_len (a : List Int) : ∀ (b : List Int) (c : Int), a.length = b.length → (add3 c a b).1.length = a.length ∧ (add3 c a b).2.1.length = a.length := by
  induction a with
  | nil =>
    intro b c h
    cases b with
    | nil => exact ⟨rfl, rfl⟩
    | cons y ys => simp at h
  | cons x xs ih =>
    intro b c h
    cases b with
    | nil => simp at h
    | cons y ys =>
      have := ih ys (rest3 (x + y + c)) (by simpa using h)
      simp only [add3, List.length_cons, this.1, this.2, and_self]
theorem add3_val (a : List Int) : ∀ (b : List Int) (c : Int), a.length = b.length → Trits a → Trits b → Trit c → val (add3 c a b).1 + pow3 a.length * (add3 c a b).2.2 = val a + val b + c ∧ Trits (add3 c a b).1 ∧ Trit (add3 c a b).2.2 := by
  induction a with
  | nil =>
    intro b c h _ _ hc
    cases b with
    | nil => refine ⟨?_, Trits.nil, hc⟩; simp [add3, val, pow3]
    | cons y ys => simp at h
  | cons x xs ih =>
    intro b c h ha hb hc
    cases b with
    | nil => simp at h
    | cons y ys =>
      have hx := (Trits.cons.1 ha).1
      have hy := (Trits.cons.1 hb).1
      have h1 : Trit (rest3 (x + y + c)) := by unfold Trit rest3 at *; omega
      have := ih ys (rest3 (x + y + c)) (by simpa using h) (Trits.cons.1 ha).2 (Trits.cons.1 hb).2 h1
      refine ⟨?_, Trits.cons.2 ⟨low3_trit _, this.2.1⟩, this.2.2⟩
      have e := this.1
      have e2 := low3_rest3 (x + y + c)
      simp only [add3, val, List.length_cons, pow3]
      rw [Int.mul_assoc]
      generalize pow3 xs.length * (add3 (rest3 (x + y + c)) xs ys).2.2 = t at *
      omega
theorem impl_carried_f (n : Int) (h0 : -4 ≤ n) (h1 : n ≤ 4) : impl_carried.f n = some (low3 n, rest3 n) := by
  unfold impl_carried.f low3 rest3
  by_cases h : n > 1
  · rw [if_pos h, w64 _ (by omega) (by omega)]
    refine congrArg some (Prod.ext ?_ ?_) <;> simp only <;> omega
  · rw [if_neg h]
    by_cases h' : n < -1
    · rw [if_pos h', w64 _ (by omega) (by omega)]
      refine congrArg some (Prod.ext ?_ ?_) <;> simp only <;> omega
    · rw [if_neg h']
      refine congrArg some (Prod.ext ?_ ?_) <;> simp only <;> omega
theorem impl_FullAdd_f (k : Nat) (a b c : Int) (hk : 2000001 ≤ k) (ha : Trit a) (hb : Trit b) (hc : Trit c) : impl_FullAdd.f k a b c = some (low3 (a + b + c), rest3 (a + b + c)) := by
  unfold impl_FullAdd.f
  have ht : Trits [a, b, c] := Trits.cons.2 ⟨ha, Trits.cons.2 ⟨hb, Trits.cons.2 ⟨hc, Trits.nil⟩⟩⟩
  unfold Trit at ha hb hc
  rw [impl_trits_f k [a, b, c] hk (by simp), bsome, if_pos (by simpa using ht), w64 (a + b) (by omega) (by omega), w64 _ (by omega) (by omega), impl_carried_f _ (by omega) (by omega), bsome]
theorem impl_added_l0 (a b : List Int) (hl : a.length ≤ 30) (hb : a.length = b.length) (ta : Trits a) (tb : Trits b) : ∀ (d k i : Nat) (c : Int) (u v : List Int), i + d = a.length → d + 2000002 < k → u.length ≤ i → v.length ≤ i → Trit c →
    impl_added.l0 k a b c u v (a.length : Int) (i : Int) = some (u ++ (add3 c (a.drop i) (b.drop i)).1, v ++ (add3 c (a.drop i) (b.drop i)).2.1, (add3 c (a.drop i) (b.drop i)).2.2) := by
  intro d
  induction d with
  | zero =>
    intro k i c u v h hk hu hv hc
    obtain ⟨k, rfl⟩ : ∃ m, k = m + 1 := ⟨k - 1, by omega⟩
    rw [impl_added.l0, if_neg (by omega), List.drop_eq_nil_of_le (by omega), List.drop_eq_nil_of_le (by omega)]
    simp [add3]
  | succ d ih =>
    intro k i c u v h hk hu hv hc
    obtain ⟨k, rfl⟩ : ∃ m, k = m + 1 := ⟨k - 1, by omega⟩
    have hx := ta _ (rd_mem a i (by omega))
    have hy := tb _ (rd_mem b i (by omega))
    rw [impl_added.l0, if_pos (by omega), if_pos (by omega), if_pos (by omega), if_pos (by omega), impl_FullAdd_f k _ _ _ (by omega) hx hy hc, bsome, if_pos (by omega), if_pos (by omega), w64 _ (by omega) (by omega)]
    rw [show ((i : Int) + 1) = ((i + 1 : Nat) : Int) from by omega]
    rw [ih k (i + 1) _ _ _ (by omega) (by omega) (by simp; omega) (by simp; omega) (by unfold Trit rest3 at *; omega), drop_rd a i (by omega), drop_rd b i (by omega)]
    simp [add3]
theorem impl_added_f (k : Nat) (a b : List Int) (c : Int) (hk : 3000000 ≤ k) (hl : a.length ≤ 30) (hb : a.length = b.length) (ta : Trits a) (tb : Trits b) (hc : Trit c) : impl_added.f k a b c = some (add3 c a b) := by
  unfold impl_added.f
  have := impl_added_l0 a b hl hb ta tb a.length k 0 c [] [] (by omega) (by omega) (by simp) (by simp) hc
  simpa using this
theorem impl_sameLength_f2 (k : Nat) (a b : List Int) (hk : 2000001 ≤ k) (ha : a.length ≤ 2000000) (hb : b.length ≤ 2000000) : impl_sameLength.f k [a, b] = some (decide (Word a ∧ Word b ∧ a.length = b.length)) := by
  unfold impl_sameLength.f
  rw [if_pos (by simp)]
  simp only [same_g, List.getD_cons_zero]
  rw [impl_IsWord_f k a hk ha, impl_IsWord_f k b hk hb]
  simp only [bsome, sameB]
  by_cases h1 : Word a <;> by_cases h2 : Word b <;> by_cases h3 : a.length = b.length <;> simp [h1, h2, h3] <;> omega
def addOf (a b : List Int) (c : Int) : List Int × Int × Bool := if Word a ∧ Word b ∧ a.length = b.length ∧ Trit c then ((add3 c a b).1, (add3 c a b).2.2, true) else ([], 0, false)
theorem impl_AddWords_f (k : Nat) (a b : List Int) (c : Int) (hk : 3000000 ≤ k) (ha : a.length ≤ 2000000) (hb : b.length ≤ 2000000) : impl_AddWords.f k a b c = some (addOf a b c) := by
  unfold impl_AddWords.f addOf
  rw [impl_IsTrit_f, bsome]
  by_cases h1 : Trit c
  · rw [if_pos (by simpa using h1), impl_sameLength_f2 k a b (by omega) ha hb, bsome]
    by_cases h2 : Word a ∧ Word b ∧ a.length = b.length
    · rw [if_pos (by simpa using h2), impl_added_f k a b c hk h2.1.2.1 h2.2.2 h2.1.2.2 h2.2.1.2.2 h1, bsome, if_pos ⟨h2.1, h2.2.1, h2.2.2, h1⟩]
    · rw [if_neg (by simpa using h2), if_neg (fun h => h2 ⟨h.1, h.2.1, h.2.2.1⟩)]
  · rw [if_neg (by simpa using h1), if_neg (fun h => h1 h.2.2.2)]
theorem laws_ints_l0 (a b : List Int) (hl : a.length ≤ 2000000) (hb : a.length = b.length) : ∀ (d k i : Nat), i + d = a.length → d < k →
    laws_ints.l0 k a b (a.length : Int) (i : Int) = some (decide (a.drop i = b.drop i)) := by
  intro d
  induction d with
  | zero =>
    intro k i h hk
    obtain ⟨k, rfl⟩ : ∃ m, k = m + 1 := ⟨k - 1, by omega⟩
    simp only [laws_ints.l0]
    rw [if_neg (by omega), List.drop_eq_nil_of_le (by omega), List.drop_eq_nil_of_le (by omega)]; simp
  | succ d ih =>
    intro k i h hk
    obtain ⟨k, rfl⟩ : ∃ m, k = m + 1 := ⟨k - 1, by omega⟩
    simp only [laws_ints.l0]
    rw [if_pos (by omega), if_pos (by omega), if_pos (by omega), if_pos (by omega), drop_rd a i (by omega), drop_rd b i (by omega), w64 _ (by omega) (by omega)]
    by_cases c : rd a (i : Int) = rd b (i : Int)
    · rw [if_pos c, show (i : Int) + 1 = ((i + 1 : Nat) : Int) from by omega, ih k (i + 1) (by omega) (by omega)]
      simp [c]
    · rw [if_neg c]; simp [c]
theorem laws_ints_f (k : Nat) (a b : List Int) (hk : 2000001 ≤ k) (hl : a.length ≤ 2000000) : laws_ints.f k a b = some (decide (a = b)) := by
  unfold laws_ints.f
  by_cases h : a.length = b.length
  · rw [if_pos (by omega)]
    have := laws_ints_l0 a b hl h a.length k 0 (by omega) (by omega)
    simpa using this
  · rw [if_neg (by omega)]
    have : a ≠ b := fun e => h (by rw [e])
    simp [this]
theorem spec_MakeExact_f (k : Nat) (l : List Int) (m : Int) (hk : 2000002 ≤ k) (hl : l.length ≤ 2000000) (h1 : 1 ≤ m) (h2 : m ≤ 30) : ∃ w, spec_MakeExact.f k l m = some w ∧ Word w ∧ (w.length : Int) = m := by
  obtain ⟨h, e⟩ := spec_l01New_f k l hk hl
  have em : mx 1 (mn m 30) = m := by unfold mx mn; split <;> split <;> omega
  have key : ∀ (d k j : Nat) (acc : List Int) (i h : Int), (j : Int) + d = m → d < k → acc.length = j → Trits acc → 0 ≤ i → ∃ w, spec_MakeExact.l0 k m acc (j : Int) l i h = some w ∧ (w.length : Int) = m ∧ Trits w := by
    intro d
    induction d with
    | zero =>
      intro k j acc i h e hk ha ht hi
      obtain ⟨k, rfl⟩ : ∃ m, k = m + 1 := ⟨k - 1, by omega⟩
      rw [spec_MakeExact.l0, em, if_neg (by omega)]
      exact ⟨acc, rfl, by omega, ht⟩
    | succ d ih =>
      intro k j acc i h e hk ha ht hi
      obtain ⟨k, rfl⟩ : ∃ m, k = m + 1 := ⟨k - 1, by omega⟩
      obtain ⟨r, i', h', er, hr, hi'⟩ := spec_l01Below_f l i h 3 hl hi (by omega) (by omega)
      rw [spec_MakeExact.l0, em, if_pos (by omega), er, bsome, if_pos (by omega), w64 _ (by omega) (by omega), w64 _ (by omega) (by omega), show ((j : Int) + 1) = ((j + 1 : Nat) : Int) from by omega]
      refine ih k (j + 1) _ i' h' (by omega) (by omega) (by simp; omega) ?_ hi'
      intro x hx
      rcases List.mem_append.1 hx with hx | hx
      · exact ht x hx
      · rw [List.mem_singleton.1 hx]
        unfold Trit; omega
  unfold spec_MakeExact.f
  rw [e, bsome]
  obtain ⟨w, ew, lw, tw⟩ := key m.toNat k 0 [] 0 h (by omega) (by omega) rfl (fun x hx => by simp at hx) (by omega)
  exact ⟨w, ew, ⟨by omega, by omega, tw⟩, lw⟩
theorem addOf_yes {a b : List Int} {c : Int} (ha : Word a) (hb : Word b) (hl : a.length = b.length) (hc : Trit c) : addOf a b c = ((add3 c a b).1, (add3 c a b).2.2, true) := if_pos ⟨ha, hb, hl, hc⟩
def Good (n : Nat) (ls : List (List Int)) : Prop := ∀ x ∈ ls, Word x ∧ x.length = n
def sumV : List (List Int) → Int
  | [] => 0
  | x :: xs => val x + sumV xs
theorem sumV_append (a b : List (List Int)) : sumV (a ++ b) = sumV a + sumV b := by
  induction a with
  | nil => simp [sumV]
  | cons x xs ih => simp only [List.cons_append, sumV, ih]; omega
theorem Good_append {n : Nat} {a b : List (List Int)} (ha : Good n a) (hb : Good n b) : Good n (a ++ b) := fun x hx => by
  rcases List.mem_append.1 hx with h | h
  · exact ha x h
  · exact hb x h
theorem same_good (k n : Nat) (hk : 2000001 ≤ k) : ∀ ls : List (List Int), Good n ls → same_g k n ls = some true := by
  intro ls
  induction ls with
  | nil => intro _; rfl
  | cons x xs ih =>
    intro h
    have hx := h x (List.mem_cons_self ..)
    have := hx.1.2.1
    rw [same_g, impl_IsWord_f k x hk (by omega), bsome, if_pos (by simp [sameB, hx.1, hx.2])]
    exact ih (fun y hy => h y (List.mem_cons_of_mem _ hy))
theorem sameLength_good (k n : Nat) (ls : List (List Int)) (hk : 2000001 ≤ k) (h : Good n ls) (h1 : 0 < ls.length) : impl_sameLength.f k ls = some true := by
  unfold impl_sameLength.f
  rw [if_pos h1]
  cases ls with
  | nil => simp at h1
  | cons x xs =>
    have hx := (h x (List.mem_cons_self ..)).2
    rw [List.getD_cons_zero, hx]
    exact same_good k n hk _ h
def cs3 : List Int → List Int → List Int → List Int × List Int
  | x :: xs, y :: ys, z :: zs => (low3 (x + y + z) :: (cs3 xs ys zs).1, rest3 (x + y + z) :: (cs3 xs ys zs).2)
  | _, _, _ => ([], [])
theorem cs3_val (x : List Int) : ∀ (y z : List Int), x.length = y.length → x.length = z.length → Trits x → Trits y → Trits z → val (cs3 x y z).1 + 3 * val (cs3 x y z).2 = val x + val y + val z ∧ Trits (cs3 x y z).1 ∧ Trits (cs3 x y z).2 ∧ (cs3 x y z).1.length = x.length ∧ (cs3 x y z).2.length = x.length := by
  induction x with
  | nil =>
    intro y z h1 h2 _ _ _
    cases y with
    | cons _ _ => simp at h1
    | nil =>
      cases z with
      | cons _ _ => simp at h2
      | nil => exact ⟨by simp [cs3, val], Trits.nil, Trits.nil, rfl, rfl⟩
  | cons a x ih =>
    intro y z h1 h2 ha hb hc
    cases y with
    | nil => simp at h1
    | cons b y =>
      cases z with
      | nil => simp at h2
      | cons c z =>
        have := ih y z (by simpa using h1) (by simpa using h2) (Trits.cons.1 ha).2 (Trits.cons.1 hb).2 (Trits.cons.1 hc).2
        have t1 := (Trits.cons.1 ha).1
        have t2 := (Trits.cons.1 hb).1
        have t3 := (Trits.cons.1 hc).1
        have e := low3_rest3 (a + b + c)
        refine ⟨?_, Trits.cons.2 ⟨low3_trit _, this.2.1⟩, Trits.cons.2 ⟨?_, this.2.2.1⟩, by simp [cs3, this.2.2.2.1], by simp [cs3, this.2.2.2.2]⟩
        · simp only [cs3, val]; omega
        · unfold Trit rest3 at *; omega
theorem impl_CarrySave_l0 (x y z : List Int) (hl : x.length ≤ 30) (h1 : x.length = y.length) (h2 : x.length = z.length) (tx : Trits x) (ty : Trits y) (tz : Trits z) : ∀ (d k i : Nat) (u v : List Int), i + d = x.length → d + 2000002 < k → u.length ≤ i → v.length = i + 1 →
    impl_CarrySave.l0 k x y z u v (x.length : Int) (i : Int) = some (u ++ (cs3 (x.drop i) (y.drop i) (z.drop i)).1, (v ++ (cs3 (x.drop i) (y.drop i) (z.drop i)).2).take x.length, true) := by
  intro d
  induction d with
  | zero =>
    intro k i u v h hk hu hv
    obtain ⟨k, rfl⟩ : ∃ m, k = m + 1 := ⟨k - 1, by omega⟩
    rw [impl_CarrySave.l0, if_neg (by omega), if_pos (by omega), if_pos (by omega), List.drop_eq_nil_of_le (by omega), List.drop_eq_nil_of_le (by omega), List.drop_eq_nil_of_le (by omega)]
    simp [cs3]
  | succ d ih =>
    intro k i u v h hk hu hv
    obtain ⟨k, rfl⟩ : ∃ m, k = m + 1 := ⟨k - 1, by omega⟩
    have h3 := tx _ (rd_mem x i (by omega))
    have h4 := ty _ (rd_mem y i (by omega))
    have h5 := tz _ (rd_mem z i (by omega))
    rw [impl_CarrySave.l0, if_pos (by omega), if_pos (by omega), if_pos (by omega), if_pos (by omega), if_pos (by omega), impl_FullAdd_f k _ _ _ (by omega) h3 h4 h5, bsome, if_pos (by omega), if_pos (by omega), w64 _ (by omega) (by omega)]
    rw [show ((i : Int) + 1) = ((i + 1 : Nat) : Int) from by omega]
    rw [ih k (i + 1) _ _ (by omega) (by omega) (by simp; omega) (by simp; omega), drop_rd x i (by omega), drop_rd y i (by omega), drop_rd z i (by omega)]
    simp [cs3]
theorem cs_ok (k n : Nat) (x y z : List Int) (hk : 3000000 ≤ k) (hx : Word x ∧ x.length = n) (hy : Word y ∧ y.length = n) (hz : Word z ∧ z.length = n) : ∃ s c, impl_CarrySave.f k x y z = some (s, c, true) ∧ (Word s ∧ s.length = n) ∧ (Word c ∧ c.length = n) ∧ ∃ q, val s + val c = val x + val y + val z + pow3 n * q := by
  have g : Good n [x, y, z] := fun w hw => by
    simp only [List.mem_cons, List.not_mem_nil, or_false] at hw
    rcases hw with rfl | rfl | rfl
    · exact hx
    · exact hy
    · exact hz
  have l1 := hx.1.1
  have l2 := hx.1.2.1
  obtain ⟨cv, t1, t2, n1, n2⟩ := cs3_val x y z (by omega) (by omega) hx.1.2.2 hy.1.2.2 hz.1.2.2
  have e := impl_CarrySave_l0 x y z l2 (by omega) (by omega) hx.1.2.2 hy.1.2.2 hz.1.2.2 x.length k 0 [] [0] (by omega) (by omega) (by simp) (by simp)
  rw [show ((0 : Nat) : Int) = 0 from rfl] at e
  simp only [List.drop_zero, List.nil_append, List.singleton_append] at e
  have t3 : Trits (0 :: (cs3 x y z).2) := Trits.cons.2 ⟨by unfold Trit; omega, t2⟩
  have va := val_append ((0 :: (cs3 x y z).2).take n) ((0 :: (cs3 x y z).2).drop n)
  have ln : ((0 :: (cs3 x y z).2).take n).length = n := by rw [List.length_take, List.length_cons]; omega
  rw [List.take_append_drop, ln] at va
  refine ⟨(cs3 x y z).1, (0 :: (cs3 x y z).2).take n, ?_, ⟨⟨by omega, by omega, t1⟩, by omega⟩, ⟨⟨by omega, by omega, t3.take n⟩, ln⟩, -val ((0 :: (cs3 x y z).2).drop n), ?_⟩
  · unfold impl_CarrySave.f
    rw [sameLength_good k n _ (by omega) g (by simp), bsome, if_pos rfl, e, hx.2]
  · rw [Int.mul_neg]
    have : val (0 :: (cs3 x y z).2) = 0 + 3 * val (cs3 x y z).2 := rfl
    omega
theorem tree_n1 (n : Nat) : ∀ (d k : Nat) (x0 acc : List (List Int)) (lv : Int), x0.length ≤ d → d + 3000000 < k → Good n x0 → Good n acc → acc.length + x0.length ≤ 100 →
    ∃ k' acc', impl_TreeSum.l1 k x0 lv acc = impl_TreeSum.l0 k' acc' (wrap64 (lv + 1)) ∧ Good n acc' ∧ (∃ q, sumV acc' = sumV acc + sumV x0 + pow3 n * q) ∧ acc'.length + x0.length / 3 = acc.length + x0.length ∧ k ≤ k' + d + 1 := by
  intro d
  induction d with
  | zero =>
    intro k x0 acc lv h hk g1 g2 hl
    obtain ⟨k, rfl⟩ : ∃ m, k = m + 1 := ⟨k - 1, by omega⟩
    refine ⟨k, acc ++ x0, ?_, Good_append g2 g1, ⟨0, by rw [sumV_append]; omega⟩, by rw [List.length_append]; omega, by omega⟩
    rw [impl_TreeSum.l1, if_neg (by omega), if_pos (by omega)]
  | succ d ih =>
    intro k x0 acc lv h hk g1 g2 hl
    obtain ⟨k, rfl⟩ : ∃ m, k = m + 1 := ⟨k - 1, by omega⟩
    by_cases c : 3 ≤ x0.length
    · obtain ⟨x, y, z, rest, rfl⟩ : ∃ x y z rest, x0 = x :: y :: z :: rest := by
        match x0, c with
        | x :: y :: z :: rest, _ => exact ⟨x, y, z, rest, rfl⟩
      simp only [List.length_cons] at h hl
      obtain ⟨s, c', e, hs, hc, q, hq⟩ := cs_ok k n x y z (by omega) (g1 x (by simp)) (g1 y (by simp)) (g1 z (by simp))
      have g3 : Good n [s, c'] := fun w hw => by
        simp only [List.mem_cons, List.not_mem_nil, or_false] at hw
        rcases hw with rfl | rfl
        · exact hs
        · exact hc
      obtain ⟨k', acc', e2, g4, ⟨q2, hq2⟩, l1, l4⟩ := ih k rest (acc ++ [s, c']) lv (by omega) (by omega) (fun w hw => g1 w (by simp [hw])) (Good_append g2 g3) (by simp; omega)
      refine ⟨k', acc', ?_, g4, ⟨q + q2, ?_⟩, ?_, by omega⟩
      · have r0 : rd_L2 (x :: y :: z :: rest) 0 = x := rfl
        have r1 : rd_L2 (x :: y :: z :: rest) 1 = y := rfl
        have r2 : rd_L2 (x :: y :: z :: rest) 2 = z := rfl
        rw [impl_TreeSum.l1, if_pos (by simp only [List.length_cons]; omega), if_pos (by simp only [List.length_cons]; omega), if_pos (by simp only [List.length_cons]; omega), if_pos (by simp only [List.length_cons]; omega), r0, r1, r2, e, bsome, bsome, if_pos (by simp only [List.length_cons, List.length_nil]; omega), if_pos (by simp only [List.length_cons]; omega)]
        exact e2
      · rw [hq2, sumV_append]
        simp only [sumV]
        rw [Int.mul_add]
        omega
      · simp only [List.length_append, List.length_cons, List.length_nil] at *; omega
    · refine ⟨k, acc ++ x0, ?_, Good_append g2 g1, ⟨0, by rw [sumV_append]; omega⟩, by rw [List.length_append]; omega, by omega⟩
      rw [impl_TreeSum.l1, if_neg (by omega), if_pos (by omega)]
def cap3 (d : Nat) : Nat := if d = 0 then 2 else if d = 1 then 3 else if d = 2 then 4 else if d = 3 then 6 else if d = 4 then 9 else 13
theorem tree_base (n k : Nat) (x0 : List (List Int)) (lv : Int) (c : ¬3 ≤ x0.length) (h1 : 1 ≤ x0.length) (hk : 3000001 ≤ k) (g : Good n x0) :
    ∃ w, impl_TreeSum.l0 k x0 lv = some (w, lv, true) ∧ (Word w ∧ w.length = n) ∧ ∃ q, val w = sumV x0 + pow3 n * q := by
  obtain ⟨k, rfl⟩ : ∃ m, k = m + 1 := ⟨k - 1, by omega⟩
  match x0, c, h1, g with
  | [x], _, _, g =>
    have gx := g x (by simp)
    have r0 : rd_L2 [x] 0 = x := rfl
    have := gx.1.2.1
    refine ⟨x, ?_, gx, 0, ?_⟩
    · rw [impl_TreeSum.l0, if_neg (by simp), if_pos (by simp), if_pos (by simp), r0]
      unfold slices_Clone_int_int.f
      rw [if_pos (by omega), bsome]
    · simp [sumV]
  | [x, y], _, _, g =>
    have gx := g x (by simp)
    have gy := g y (by simp)
    have r0 : rd_L2 [x, y] 0 = x := rfl
    have r1 : rd_L2 [x, y] 1 = y := rfl
    have lx := gx.1.1
    have lx2 := gx.1.2.1
    have l2 := gx.2
    have l3 := gy.2
    obtain ⟨v1, v2, v3⟩ := add3_val x y 0 (by omega) gx.1.2.2 gy.1.2.2 (by unfold Trit; omega)
    have v4 := (add3_len x y 0 (by omega)).1
    refine ⟨(add3 0 x y).1, ?_, ⟨⟨by omega, by omega, v2⟩, by omega⟩, -(add3 0 x y).2.2, ?_⟩
    · rw [impl_TreeSum.l0, if_neg (by simp), if_neg (by simp), if_pos (by simp), if_pos (by simp), r0, r1, impl_AddWords_f k x y 0 (by omega) (by omega) (by omega), addOf_yes gx.1 gy.1 (by omega) (by unfold Trit; omega), bsome]
    · rw [Int.mul_neg]
      simp only [sumV]
      rw [l2] at v1
      omega
  | x :: y :: z :: r, c, _, _ => exact absurd (by simp only [List.length_cons]; omega) c
theorem tree_n0 (n : Nat) : ∀ (d k : Nat) (x0 : List (List Int)) (lv : Int), d ≤ 5 → x0.length ≤ cap3 d → 1 ≤ x0.length → 200 * d + 3000010 < k → Good n x0 → 0 ≤ lv → lv + d ≤ 100 →
    ∃ w lv', impl_TreeSum.l0 k x0 lv = some (w, lv', true) ∧ (Word w ∧ w.length = n) ∧ (∃ q, val w = sumV x0 + pow3 n * q) ∧ lv ≤ lv' ∧ lv' ≤ lv + d ∧ (x0.length < 3 → lv' = lv) := by
  intro d
  induction d with
  | zero =>
    intro k x0 lv hd h h1 hk g _ _
    have e0 : cap3 0 = 2 := rfl
    rw [e0] at h
    obtain ⟨w, e, hw, hq⟩ := tree_base n k x0 lv (by omega) h1 (by omega) g
    exact ⟨w, lv, e, hw, hq, by omega, by omega, fun _ => rfl⟩
  | succ d ih =>
    intro k x0 lv hd h h1 hk g l0 l1
    by_cases c : 3 ≤ x0.length
    · obtain ⟨k, rfl⟩ : ∃ m, k = m + 1 := ⟨k - 1, by omega⟩
      have h13 : x0.length ≤ 13 := by
        have : cap3 (d + 1) ≤ 13 := by unfold cap3; repeat (split <;> try omega)
        omega
      obtain ⟨k', acc', e, g4, ⟨q, hq⟩, l2, l4⟩ := tree_n1 n x0.length k x0 [] lv (Nat.le_refl _) (by omega) g (fun w hw => by simp at hw) (by simp; omega)
      simp only [List.length_nil] at l2
      have hc : acc'.length ≤ cap3 d := by
        have : d = 0 ∨ d = 1 ∨ d = 2 ∨ d = 3 ∨ d = 4 := by omega
        rcases this with rfl | rfl | rfl | rfl | rfl <;> simp [cap3] at h ⊢ <;> omega
      obtain ⟨w, lv', e2, hw, ⟨q2, hq2⟩, m1, m2, m3⟩ := ih k' acc' (lv + 1) (by omega) hc (by omega) (by omega) g4 (by omega) (by omega)
      refine ⟨w, lv', ?_, hw, ⟨q + q2, ?_⟩, by omega, by omega, by omega⟩
      · rw [impl_TreeSum.l0, if_pos (by omega), e, w64 _ (by omega) (by omega), e2]
      · rw [hq2, hq, Int.mul_add]
        simp only [sumV]
        omega
    · obtain ⟨w, e, hw, hq⟩ := tree_base n k x0 lv c h1 (by omega) g
      exact ⟨w, lv, e, hw, hq, by omega, by omega, fun _ => rfl⟩
theorem impl_TreeSum_n (n k : Nat) (ls : List (List Int)) (h1 : 1 ≤ ls.length) (h2 : ls.length ≤ 13) (hk : 4000000 ≤ k) (g : Good n ls) : ∃ w lv, impl_TreeSum.f k ls = some (w, lv, true) ∧ (Word w ∧ w.length = n) ∧ (∃ q, val w = sumV ls + pow3 n * q) ∧ 0 ≤ lv ∧ lv ≤ 5 ∧ (ls.length < 3 → lv = 0) := by
  obtain ⟨k, rfl⟩ : ∃ m, k = m + 1 := ⟨k - 1, by omega⟩
  obtain ⟨w, lv', e, hw, hq, m1, m2, m3⟩ := tree_n0 n 5 k ls 0 (by omega) (by unfold cap3; simpa using h2) h1 (by omega) g (by omega) (by omega)
  refine ⟨w, lv', ?_, hw, hq, m1, by omega, m3⟩
  unfold impl_TreeSum.f
  rw [if_neg (by omega), sameLength_good _ n ls (by omega) g (by omega), bsome, impl_TreeSum.j0, if_neg (by simp), e]
theorem cs_ok3 (k n : Nat) (x y z : List Int) (hk : 3000000 ≤ k) (hx : Word x ∧ x.length = n) (hy : Word y ∧ y.length = n) (hz : Word z ∧ z.length = n) : ∃ s c, impl_CarrySave.f k x y z = some (s, c, true) ∧ (Word s ∧ s.length = n) ∧ (Word c ∧ c.length = n) ∧ rd c 0 = 0 ∧ ∃ q, val s + val c = val x + val y + val z + pow3 n * q := by
  have g : Good n [x, y, z] := fun w hw => by
    simp only [List.mem_cons, List.not_mem_nil, or_false] at hw
    rcases hw with rfl | rfl | rfl
    · exact hx
    · exact hy
    · exact hz
  have l1 := hx.1.1
  have l2 := hx.1.2.1
  obtain ⟨cv, t1, t2, n1, n2⟩ := cs3_val x y z (by omega) (by omega) hx.1.2.2 hy.1.2.2 hz.1.2.2
  have e := impl_CarrySave_l0 x y z l2 (by omega) (by omega) hx.1.2.2 hy.1.2.2 hz.1.2.2 x.length k 0 [] [0] (by omega) (by omega) (by simp) (by simp)
  rw [show ((0 : Nat) : Int) = 0 from rfl] at e
  simp only [List.drop_zero, List.nil_append, List.singleton_append] at e
  have t3 : Trits (0 :: (cs3 x y z).2) := Trits.cons.2 ⟨by unfold Trit; omega, t2⟩
  have va := val_append ((0 :: (cs3 x y z).2).take n) ((0 :: (cs3 x y z).2).drop n)
  have ln : ((0 :: (cs3 x y z).2).take n).length = n := by rw [List.length_take, List.length_cons]; omega
  rw [List.take_append_drop, ln] at va
  refine ⟨(cs3 x y z).1, (0 :: (cs3 x y z).2).take n, ?_, ⟨⟨by omega, by omega, t1⟩, by omega⟩, ⟨⟨by omega, by omega, t3.take n⟩, ln⟩, ?_, -val ((0 :: (cs3 x y z).2).drop n), ?_⟩
  · unfold impl_CarrySave.f
    rw [sameLength_good k n _ (by omega) g (by simp), bsome, if_pos rfl, e, hx.2]
  · obtain ⟨m, rfl⟩ : ∃ m, n = m + 1 := ⟨n - 1, by omega⟩
    rfl
  · rw [Int.mul_neg]
    have : val (0 :: (cs3 x y z).2) = 0 + 3 * val (cs3 x y z).2 := rfl
    omega
theorem good_unique {n : Nat} {v w : List Int} {S q r : Int} (hv : Word v ∧ v.length = n) (hw : Word w ∧ w.length = n) (ev : val v = S + pow3 n * q) (ew : val w = S + pow3 n * r) : v = w := by
  have bv := val_bd v hv.1.2.2
  have bw := val_bd w hw.1.2.2
  rw [hv.2] at bv
  rw [hw.2] at bw
  have pl := pow3_lim n
  have ln := lim_nonneg n
  have hd : val v - val w = pow3 n * (q - r) := by rw [Int.mul_sub]; omega
  have q0 : q - r = 0 := by
    rcases Int.lt_trichotomy (q - r) 0 with h | h | h
    · have := Int.mul_le_mul_of_nonneg_left (show q - r ≤ -1 by omega) (show 0 ≤ pow3 n by omega)
      omega
    · exact h
    · have := Int.mul_le_mul_of_nonneg_left (show 1 ≤ q - r by omega) (show 0 ≤ pow3 n by omega)
      omega
  rw [q0] at hd
  exact val_inj hv.1.2.2 hw.1.2.2 (by rw [hv.2, hw.2]) (by simp at hd; omega)
theorem sumV_reverse (ls : List (List Int)) : sumV ls.reverse = sumV ls := by
  induction ls with
  | nil => rfl
  | cons x xs ih => rw [List.reverse_cons, sumV_append, ih]; simp only [sumV]; omega
theorem sumV_bd (n : Nat) (ls : List (List Int)) (g : Good n ls) : -(ls.length * 102945566047324) ≤ sumV ls ∧ sumV ls ≤ ls.length * 102945566047324 := by
  induction ls with
  | nil => simp [sumV]
  | cons x xs ih =>
    have h := ih (fun y hy => g y (List.mem_cons_of_mem _ hy))
    have b := (g x (List.mem_cons_self ..)).1.bd
    rw [lim30] at b
    simp only [sumV, List.length_cons]
    omega
theorem cs_vv (k : Nat) (hk : 3000000 ≤ k) : ∀ z, Word z → impl_ValueOf.f k z = some (val z) := fun z hz => by
  have := hz.2.1
  rw [impl_ValueOf_f k z (by omega) (by omega), if_pos hz]
theorem cs_j2 (k n : Nat) (ls : List (List Int)) (lv : Int) (hk : 4000000 ≤ k) (g : Good n ls) (hn : 1 ≤ n) (h3 : ls.length < 3 → lv = 0) : laws_FnCarrySave.j2 (k + 1) (n : Int) ls (pow3 n) lv false = some true := by
  rw [laws_FnCarrySave.j2, if_neg (by simp)]
  by_cases c : ls.length < 3
  · rw [if_pos (by omega), h3 c]; rfl
  · obtain ⟨x, y, z, rest, rfl⟩ : ∃ x y z rest, ls = x :: y :: z :: rest := by
      match ls, c with
      | x :: y :: z :: rest, _ => exact ⟨x, y, z, rest, rfl⟩
      | [], c => exact absurd (by simp) c
      | [_], c => exact absurd (by simp) c
      | [_, _], c => exact absurd (by simp) c
    have gx := g x (by simp)
    have gy := g y (by simp)
    have gz := g z (by simp)
    obtain ⟨s, c', e, hs, hc, c0, q, hq⟩ := cs_ok3 k n x y z (by omega) gx gy gz
    have r0 : rd_L2 (x :: y :: z :: rest) 0 = x := rfl
    have r1 : rd_L2 (x :: y :: z :: rest) 1 = y := rfl
    have r2 : rd_L2 (x :: y :: z :: rest) 2 = z := rfl
    have b1 := hs.1.bd
    have b2 := hc.1.bd
    have b3 := gx.1.bd
    have b4 := gy.1.bd
    have b5 := gz.1.bd
    have ls' := hs.2
    have lc' := hc.2
    rw [lim30] at b1 b2 b3 b4 b5
    have pp := pow3_pos n
    have vv := cs_vv k (by omega)
    have e5 : val s + val c' - val x - val y - val z = pow3 n * q := by omega
    rw [if_neg (by omega), if_pos (by simp only [List.length_cons]; omega), if_pos (by simp only [List.length_cons]; omega), if_pos (by simp only [List.length_cons]; omega), r0, r1, r2, e, bsome]
    simp only [↓reduceIte]
    rw [if_pos (by omega), if_pos (by omega), if_pos (by omega), if_pos c0, vv s hs.1, bsome, vv c' hc.1, bsome, vv x gx.1, bsome, vv y gy.1, bsome, vv z gz.1, bsome, if_neg (by omega), w64 (val s + val c') (by omega) (by omega), w64 (val s + val c' - val x) (by omega) (by omega), w64 (val s + val c' - val x - val y) (by omega) (by omega), w64 (val s + val c' - val x - val y - val z) (by omega) (by omega), e5, Int.tmod_eq_zero_of_dvd (Int.dvd_mul_right _ _)]
    rfl
theorem cs_rev (n : Nat) (ls : List (List Int)) (w : List Int) (lv q : Int) (g : Good n ls) (hn : 1 ≤ n) (h1 : 1 ≤ ls.length) (h2 : ls.length ≤ 13) (hw : Word w ∧ w.length = n) (hq : val w = sumV ls + pow3 n * q) (v0 : 0 ≤ lv) (v1 : lv ≤ 5) (v2 : ls.length < 3 → lv = 0) : ∀ (i k : Nat), i ≤ ls.length → i + 5000000 < k →
    laws_FnCarrySave.l1 k (n : Int) ls (sumV ls) (pow3 n) w lv true ((ls.drop i).reverse) ((i : Int) - 1) = some true := by
  intro i
  induction i with
  | zero =>
    intro k hi hk
    obtain ⟨k, rfl⟩ : ∃ m, k = m + 2 := ⟨k - 2, by omega⟩
    have gr : Good n ls.reverse := fun x hx => g x (List.mem_reverse.1 hx)
    obtain ⟨w2, lv2, e2, hw2, ⟨q2, hq2⟩, _⟩ := impl_TreeSum_n n (k + 1) ls.reverse (by rw [List.length_reverse]; omega) (by rw [List.length_reverse]; omega) (by omega) gr
    rw [sumV_reverse] at hq2
    have ew := good_unique hw hw2 hq hq2
    subst ew
    have hl := hw.1.2.1
    have b1 := hw.1.bd
    have b2 := sumV_bd n ls g
    have pp := pow3_pos n
    have ln := hw.2
    rw [lim30] at b1
    have e5 : val w - sumV ls = pow3 n * q := by omega
    rw [laws_FnCarrySave.l1, if_neg (by omega), List.drop_zero, e2, bsome]
    simp only [↓reduceIte]
    rw [laws_ints_f _ w w (by omega) (by omega), bsome, if_pos (by simp), if_pos (by omega), cs_vv _ (by omega) w hw.1, bsome, if_neg (by omega), w64 (val w - sumV ls) (by omega) (by omega), e5, if_pos (Int.tmod_eq_zero_of_dvd (Int.dvd_mul_right _ _)), if_neg (by omega), decide_eq_false (by omega)]
    exact cs_j2 k n ls lv (by omega) g hn v2
  | succ i ih =>
    intro k hi hk
    obtain ⟨k, rfl⟩ : ∃ m, k = m + 1 := ⟨k - 1, by omega⟩
    have hd : ls.drop i = rd_L2 ls (i : Int) :: ls.drop (i + 1) := by
      rw [List.drop_eq_getElem_cons (by omega : i < ls.length)]
      simp [rd_L2, List.getD, List.getElem?_eq_getElem (by omega : i < ls.length)]
    have := ih k (by omega) (by omega)
    rw [hd, List.reverse_cons] at this
    rw [laws_FnCarrySave.l1, if_pos (by omega), if_pos (by omega), if_pos (by omega), if_pos (by simp; omega), show ((i + 1 : Nat) : Int) - 1 = (i : Int) from by omega, w64 ((i : Int) - 1) (by omega) (by omega)]
    exact this
theorem cs_loop (l0 : List Int) (n : Nat) (u : Int) (m : Nat) (hl : l0.length ≤ 2000000) (hn : 1 ≤ n) (hn2 : n ≤ 30) (eu : laws_at.f l0 2 = some u) (hm : (m : Int) = 1 + Int.tmod u 12) (hm1 : 1 ≤ m) (hm2 : m ≤ 12) : ∀ (d k i : Nat) (ls : List (List Int)), i + d = m → d + 6000000 < k → ls.length = i → Good n ls →
    laws_FnCarrySave.l0 k l0 (n : Int) ls (sumV ls) (i : Int) = some true := by
  intro d
  induction d with
  | zero =>
    intro k i ls h hk hi g
    obtain ⟨k, rfl⟩ : ∃ m, k = m + 1 := ⟨k - 1, by omega⟩
    obtain ⟨w, lv, e, hw, ⟨q, hq⟩, v0, v1, v2⟩ := impl_TreeSum_n n k ls (by omega) (by omega) (by omega) g
    have lm : lim n ≤ lim 30 := lim_mono hn2
    have ln := lim_nonneg n
    rw [lim30] at lm
    rw [laws_FnCarrySave.l0, eu, bsome, ← hm, w64 (m : Int) (by omega) (by omega), if_neg (by omega), impl_LimitOf_f k _ (by omega), if_pos (by omega : (1 : Int) ≤ (n : Int) ∧ (n : Int) ≤ 30), bsome, e, bsome, show ((n : Int)).toNat = n from by omega, w64 (2 * lim n) (by omega) (by omega), w64 (2 * lim n + 1) (by omega) (by omega), ← pow3_lim, w64 ((ls.length : Int) - 1) (by omega) (by omega)]
    have := cs_rev n ls w lv q g hn (by omega) (by omega) hw hq v0 v1 v2 ls.length k (Nat.le_refl _) (by omega)
    rw [List.drop_length, List.reverse_nil] at this
    exact this
  | succ d ih =>
    intro k i ls h hk hi g
    obtain ⟨k, rfl⟩ : ∃ m, k = m + 1 := ⟨k - 1, by omega⟩
    obtain ⟨c, ec, hc⟩ := laws_fresh_f k l0 (3 + (i : Int)) (by omega) (by omega)
    obtain ⟨w, ew, hw, lw⟩ := spec_MakeExact_f k c (n : Int) (by omega) (by omega) (by omega) (by omega)
    have b1 := hw.bd
    have b2 := sumV_bd n ls g
    rw [lim30] at b1
    rw [laws_FnCarrySave.l0, eu, bsome, ← hm, w64 (m : Int) (by omega) (by omega), if_pos (by omega), w64 (3 + (i : Int)) (by omega) (by omega), ec, bsome, ew, bsome, if_pos (by omega), cs_vv k (by omega) w hw, bsome, w64 (sumV ls + val w) (by omega) (by omega), w64 ((i : Int) + 1) (by omega) (by omega)]
    have := ih k (i + 1) (ls ++ [w]) (by omega) (by omega) (by simp; omega) (Good_append g (fun x hx => by rw [List.mem_singleton.1 hx]; exact ⟨hw, by omega⟩))
    rw [sumV_append, show sumV [w] = val w from by simp [sumV], show ((i + 1 : Nat) : Int) = (i : Int) + 1 from by omega] at this
    exact this
end FnCarrySaveParts
open FnCarrySaveParts
attribute [local congr] bind_left

theorem FnCarrySave : laws_FnCarrySave.Pure := by
  intro l0 _ hl hwf
  obtain ⟨K, hK⟩ : ∃ K, 100000000 ≤ K := ⟨_, Nat.le_refl _⟩
  refine ⟨K, ?_⟩
  unfold laws_FnCarrySave.f
  by_cases h0 : (l0.length : Int) > 1048576
  · rw [if_pos h0]
  obtain ⟨t, et, ht⟩ := laws_at_f l0 1 (by omega) hwf (by omega) (by omega)
  obtain ⟨u, eu, hu⟩ := laws_at_f l0 2 (by omega) hwf (by omega) (by omega)
  have mt := (tmod_range (n := t) (m := 12) (by omega)).1 ht.1
  have mu := (tmod_range (n := u) (m := 12) (by omega)).1 hu.1
  rw [if_neg h0, et, bsome, w64 (1 + Int.tmod t 12) (by omega) (by omega)]
  obtain ⟨n, hn⟩ : ∃ n : Nat, 1 + Int.tmod t 12 = (n : Int) := ⟨(1 + Int.tmod t 12).toNat, by omega⟩
  obtain ⟨m, hm⟩ : ∃ m : Nat, (m : Int) = 1 + Int.tmod u 12 := ⟨(1 + Int.tmod u 12).toNat, by omega⟩
  rw [hn]
  exact cs_loop l0 n u m (by omega) (by omega) (by omega) eu hm (by omega) (by omega) m K 0 [] (by omega) (by omega) rfl (fun x hx => by simp at hx)

end Go.Proofs.Ytcgfcnpiekcofaa.Pure
