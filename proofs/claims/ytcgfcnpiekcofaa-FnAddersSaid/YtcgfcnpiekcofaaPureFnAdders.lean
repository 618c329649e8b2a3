/- For every text of draws: both adders agree, and sums and differences have the value that they should; no condition. -/
import Derived.Test.YtcgfcnpiekcofaaPx17
import Derived.Test.YtcgfcnpiekcofaaGlue
namespace Go.Proofs.Ytcgfcnpiekcofaa.Pure
open Go.RowKit Go.Proofs.Ytcgfcnpiekcofaa.Tern Go.Proofs.Ytcgfcnpiekcofaa.P Go.Proofs.YtcgfcnpiekcofaaW.PrintWords Go.Proofs.YtcgfcnpiekcofaaW.PrintLast
set_option linter.unusedVariables false
set_option linter.unusedSimpArgs false

namespace FnAddersParts
theorem impl_IsTrit_f (a : Int) : impl_IsTrit.f a = some (decide (Trit a)) := by
  unfold impl_IsTrit.f Trit
  split
  · rename_i h
    simp [show -1 ≤ a from h]
  · rename_i h
    have : ¬ (-1 ≤ a) := h
    simp [this]
theorem impl_trits_l0 (l : List Int) (hl : l.length ≤ 2000000) : ∀ (d k i : Nat), i + d = l.length → d < k →
    impl_trits.l0 k l (l.length : Int) (i : Int) = some (decide (Trits (l.drop i))) := by
  intro d
  induction d with
  | zero =>
    intro k i h hk
    obtain ⟨k, rfl⟩ : ∃ m, k = m + 1 := ⟨k - 1, by omega⟩
    simp only [impl_trits.l0]
    rw [if_neg (by omega), List.drop_eq_nil_of_le (by omega)]
    simp [Trits.nil]
  | succ d ih =>
    intro k i h hk
    obtain ⟨k, rfl⟩ : ∃ m, k = m + 1 := ⟨k - 1, by omega⟩
    simp only [impl_trits.l0]
    rw [if_pos (by omega), if_pos (by omega), if_pos (by omega), impl_IsTrit_f, drop_rd l i (by omega)]
    simp only [bsome, Trits.cons]
    by_cases ht : Trit (rd l (i : Int))
    · rw [if_pos (by simpa using ht), w64 _ (by omega) (by omega)]
      have := ih k (i + 1) (by omega) (by omega)
      rw [show ((i + 1 : Nat) : Int) = (i : Int) + 1 from by omega] at this
      rw [this]; simp [ht]
    · rw [if_neg (by simpa using ht)]; simp [ht]
theorem impl_trits_f (k : Nat) (l : List Int) (hk : 2000001 ≤ k) (hl : l.length ≤ 2000000) : impl_trits.f k l = some (decide (Trits l)) := by
  unfold impl_trits.f
  have := impl_trits_l0 l hl l.length k 0 (by omega) (by omega)
  simpa using this
theorem impl_IsWord_f (k : Nat) (l : List Int) (hk : 2000001 ≤ k) (hl : l.length ≤ 2000000) : impl_IsWord.f k l = some (decide (Word l)) := by
  unfold impl_IsWord.f Word
  rw [impl_trits_f k l hk hl]
  by_cases h1 : 1 ≤ l.length
  · rw [if_pos (by omega)]
    by_cases h2 : l.length ≤ 30
    · rw [if_pos (by omega)]; simp [h1, h2]
    · rw [if_neg (by omega)]; simp [h2]
  · rw [if_neg (by omega)]; simp [h1]
theorem impl_value_l0 (l : List Int) (hl : l.length ≤ 30) (hb : Digs l) : ∀ (n k : Nat) (x : Int), n ≤ l.length → n < k → x = (n : Int) - 1 →
    impl_value.l0 k l (val (l.drop n)) x = some (val l) := by
  intro n
  induction n with
  | zero =>
    intro k x h hk hx
    obtain ⟨k, rfl⟩ : ∃ m, k = m + 1 := ⟨k - 1, by omega⟩
    simp only [impl_value.l0]
    rw [if_neg (by omega), List.drop_zero]
  | succ n ih =>
    intro k x h hk hx
    obtain ⟨k, rfl⟩ : ∃ m, k = m + 1 := ⟨k - 1, by omega⟩
    obtain rfl : x = (n : Int) := by omega
    have b1 := val_drop_bd l hl hb (n + 1)
    have b2 := hb _ (rd_mem l n (by omega))
    simp only [impl_value.l0]
    rw [if_pos (by omega), if_pos (by omega), if_pos (by omega), w64 (3 * _) (by omega) (by omega), w64 _ (by omega) (by omega), w64 _ (by omega) (by omega)]
    have e : val (l.drop n) = 3 * val (l.drop (n + 1)) + rd l (n : Int) := by rw [drop_rd l n (by omega)]; simp only [val]; omega
    rw [← e]
    exact ih k _ (by omega) (by omega) rfl
theorem impl_value_f (k : Nat) (l : List Int) (hk : 31 ≤ k) (hl : l.length ≤ 30) (hb : Digs l) : impl_value.f k l = some (val l) := by
  unfold impl_value.f
  have := impl_value_l0 l hl hb l.length k (wrap64 ((l.length : Int) - 1)) (Nat.le_refl _) (by omega) (w64 _ (by omega) (by omega))
  rw [List.drop_length] at this
  exact this
theorem impl_ValueOf_f (k : Nat) (l : List Int) (hk : 2000001 ≤ k) (hl : l.length ≤ 2000000) : impl_ValueOf.f k l = some (if Word l then val l else 0) := by
  unfold impl_ValueOf.f
  rw [impl_IsWord_f k l hk hl]
  by_cases h : Word l
  · simp [h, impl_value_f k l (by omega) h.2.1 h.2.2.digs]
  · simp [h]
theorem impl_power_l0 (a : Int) (ha : a ≤ 30) : ∀ (d k i : Nat), (i : Int) + d = a → d < k → impl_power.l0 k (pow3 i) a (i : Int) = some (pow3 a.toNat) := by
  intro d
  induction d with
  | zero =>
    intro k i h hk
    obtain ⟨k, rfl⟩ : ∃ m, k = m + 1 := ⟨k - 1, by omega⟩
    simp only [impl_power.l0]
    rw [if_neg (by omega), show a.toNat = i from by omega]
  | succ d ih =>
    intro k i h hk
    obtain ⟨k, rfl⟩ : ∃ m, k = m + 1 := ⟨k - 1, by omega⟩
    have h1 := pow3_pos i
    have h2 : pow3 i ≤ pow3 30 := pow3_mono (by omega)
    rw [pow3_30] at h2
    simp only [impl_power.l0]
    rw [if_pos (by omega), w64 _ (by omega) (by omega), w64 _ (by omega) (by omega)]
    have := ih k (i + 1) (by omega) (by omega)
    simp only [pow3] at this
    rw [show pow3 i * 3 = 3 * pow3 i from by omega, show (i : Int) + 1 = ((i + 1 : Nat) : Int) from by omega]
    exact this
theorem impl_power_f (k : Nat) (a : Int) (hk : 31 ≤ k) (ha : a ≤ 30) : impl_power.f k a = some (pow3 a.toNat) := by
  unfold impl_power.f
  by_cases h : 0 ≤ a
  · exact impl_power_l0 a ha a.toNat k 0 (by omega) (by omega)
  · obtain ⟨k, rfl⟩ : ∃ m, k = m + 1 := ⟨k - 1, by omega⟩
    simp only [impl_power.l0]
    rw [if_neg (by omega), show a.toNat = 0 from by omega]; rfl
theorem impl_LimitOf_f (k : Nat) (a : Int) (hk : 31 ≤ k) : impl_LimitOf.f k a = some (if 1 ≤ a ∧ a ≤ 30 then lim a.toNat else 0) := by
  unfold impl_LimitOf.f
  by_cases h1 : a < 1
  · rw [if_pos h1, if_neg (by omega)]
  · rw [if_neg h1]
    by_cases h2 : a > 30
    · rw [if_pos h2, if_neg (by omega)]
    · rw [if_neg h2, impl_power_f k a hk (by omega), if_pos (by omega)]
      have h3 := pow3_lim a.toNat
      have h4 := lim_nonneg a.toNat
      have h5 : lim a.toNat ≤ lim 30 := lim_mono (by omega)
      rw [lim30] at h5
      simp only [bsome]
      rw [w64 (pow3 _ - 1) (by omega) (by omega), h3, show 2 * lim a.toNat + 1 - 1 = 2 * lim a.toNat from by omega, Int.mul_tdiv_cancel_left _ (by omega), w64 _ (by omega) (by omega)]
theorem bits_and255 (x : Int) : 0 ≤ Go.bits .and .i64 x 255 ∧ Go.bits .and .i64 x 255 ≤ 255 := by
  have h : (BitVec.ofInt 64 x &&& BitVec.ofInt 64 255).toNat ≤ 255 := by
    rw [BitVec.toNat_and]
    exact Nat.le_trans Nat.and_le_right (by decide)
  have e : Go.bits .and .i64 x 255 = IntKind.i64.wrap ((BitVec.ofInt 64 x &&& BitVec.ofInt 64 255).toNat : Int) := rfl
  rw [e, IntKind.wrap_i64]
  omega
theorem spec_l01Byte_f (b : List Int) (i h : Int) (hb : b.length ≤ 2000000) (hi : 0 ≤ i) : ∃ r i' h', spec_l01Byte.f b i h = some (r, i', h') ∧ (0 ≤ r ∧ r ≤ 255) ∧ 0 ≤ i' := by
  unfold spec_l01Byte.f
  by_cases c : i < (b.length : Int)
  · rw [if_pos c, if_pos hi, w64 (i + 1) (by omega) (by omega)]
    exact ⟨_, _, _, rfl, bits_and255 _, by omega⟩
  · rw [if_neg c]
    exact ⟨_, _, _, rfl, bits_and255 _, hi⟩
theorem spec_l01Below_f (b : List Int) (i h n : Int) (hb : b.length ≤ 2000000) (hi : 0 ≤ i) (h1 : 1 ≤ n) (h2 : n ≤ 256) : ∃ r i' h', spec_l01Below.f b i h n = some (r, i', h') ∧ (0 ≤ r ∧ r < n) ∧ 0 ≤ i' := by
  obtain ⟨r, i', h', e, hr, hi'⟩ := spec_l01Byte_f b i h hb hi
  unfold spec_l01Below.f
  rw [if_neg (by omega), if_pos h2, e, bsome, if_neg (by omega)]
  refine ⟨_, _, _, rfl, ?_, hi'⟩
  show 0 ≤ Int.tmod r n ∧ Int.tmod r n < n
  exact (tmod_range (n := r) (by omega)).1 hr.1
theorem spec_l01New_f (k : Nat) (l : List Int) (hk : 2000002 ≤ k) (hl : l.length ≤ 2000000) : ∃ h, spec_l01New.f k l = some (l, 0, h) := by
  have key : ∀ (d k i : Nat) (h : Int), i + d = l.length → d < k → ∃ h', spec_l01New.l0 k l h (i : Int) = some (l, 0, h') := by
    intro d
    induction d with
    | zero =>
      intro k i h e hk
      obtain ⟨k, rfl⟩ : ∃ m, k = m + 1 := ⟨k - 1, by omega⟩
      rw [spec_l01New.l0, if_neg (by omega)]
      exact ⟨_, rfl⟩
    | succ d ih =>
      intro k i h e hk
      obtain ⟨k, rfl⟩ : ∃ m, k = m + 1 := ⟨k - 1, by omega⟩
      rw [spec_l01New.l0, if_pos (by omega)]
      by_cases c : (i : Int) < 4000
      · rw [if_pos c, if_pos (by omega), w64 ((i : Int) + 1) (by omega) (by omega), show (i : Int) + 1 = ((i + 1 : Nat) : Int) from by omega]
        exact ih k (i + 1) _ (by omega) (by omega)
      · rw [if_neg c]
        exact ⟨_, rfl⟩
  unfold spec_l01New.f
  exact key l.length k 0 _ (by omega) (by omega)
theorem laws_fresh_f (k : Nat) (l : List Int) (m : Int) (hk : 2000002 ≤ k) (hl : l.length ≤ 2000000) : ∃ c, laws_fresh.f k l m = some c ∧ c.length ≤ 1000 := by
  have key : ∀ (d k i : Nat) (acc : List Int), i + d = l.length → d < k → acc.length = i + 1 → i ≤ 600 → ∃ c, laws_fresh.l0 k l m acc (i : Int) = some c ∧ c.length ≤ 1000 := by
    intro d
    induction d with
    | zero =>
      intro k i acc e hk ha hi
      obtain ⟨k, rfl⟩ : ∃ m, k = m + 1 := ⟨k - 1, by omega⟩
      rw [laws_fresh.l0, if_neg (by omega)]
      exact ⟨acc, rfl, by omega⟩
    | succ d ih =>
      intro k i acc e hk ha hi
      obtain ⟨k, rfl⟩ : ∃ m, k = m + 1 := ⟨k - 1, by omega⟩
      rw [laws_fresh.l0, if_pos (by omega)]
      by_cases c : (i : Int) < 600
      · rw [if_pos c, if_pos (by omega), if_pos (by omega), w64 ((i : Int) + 1) (by omega) (by omega), show (i : Int) + 1 = ((i + 1 : Nat) : Int) from by omega]
        exact ih k (i + 1) _ (by omega) (by omega) (by simp [ha]) (by omega)
      · rw [if_neg c]
        exact ⟨acc, rfl, by omega⟩
  unfold laws_fresh.f
  exact key l.length k 0 _ (by omega) (by omega) (by simp) (by omega)
theorem laws_at_f (l : List Int) (i : Int) (hl : l.length ≤ 2000000) (hw : ∀ x ∈ l, (Lit.int .u8 x).wf = true) (h0 : 0 ≤ i) (h1 : i ≤ 1000) : ∃ v, laws_at.f l i = some v ∧ 0 ≤ v ∧ v ≤ 255 := by
  unfold laws_at.f
  by_cases c : i < (l.length : Int)
  · have := wf8 (hw _ (rd_mem l i.toNat (by omega)))
    rw [show ((i.toNat : Nat) : Int) = i from by omega] at this
    rw [if_pos c, if_pos h0, w64 _ (by omega) (by omega)]
    exact ⟨_, rfl, this⟩
  · rw [if_neg c, w64 (i * 37) (by omega) (by omega), w64 ((l.length : Int) * 11) (by omega) (by omega), w64 _ (by omega) (by omega)]
    have := (tmod_range (n := i * 37 + (l.length : Int) * 11) (m := 256) (by omega)).1 (by omega)
    exact ⟨_, rfl, by omega, by omega⟩
def add3 (c : Int) : List Int → List Int → List Int × List Int × Int
  | x :: xs, y :: ys => (low3 (x + y + c) :: (add3 (rest3 (x + y + c)) xs ys).1, c :: (add3 (rest3 (x + y + c)) xs ys).2.1, (add3 (rest3 (x + y + c)) xs ys).2.2)
  | _, _ => ([], [], c)
theorem add3_len (a : List Int) : ∀ (b : List Int) (c : Int), a.length = b.length → (add3 c a b).1.length = a.length ∧ (add3 c a b).2.1.length = a.length := by
  induction a with
  | nil =>
    intro b c h
    cases b with
    | nil => exact ⟨rfl, rfl⟩
    | cons y ys => simp at h
  | cons x xs ih =>
    intro b c h
    cases b with
    | nil => simp at h
    | cons y ys =>
      have := ih ys (rest3 (x + y + c)) (by simpa using h)
      simp only [add3, List.length_cons, this.1, this.2, and_self]
theorem add3_val (a : List Int) : ∀ (b : List Int) (c : Int), a.length = b.length → Trits a → Trits b → Trit c → val (add3 c a b).1 + pow3 a.length * (add3 c a b).2.2 = val a + val b + c ∧ Trits (add3 c a b).1 ∧ Trit (add3 c a b).2.2 := by
  induction a with
  | nil =>
    intro b c h _ _ hc
    cases b with
    | nil => refine ⟨?_, Trits.nil, hc⟩; simp [add3, val, pow3]
    | cons y ys => simp at h
  | cons x xs ih =>
    intro b c h ha hb hc
    cases b with
    | nil => simp at h
    | cons y ys =>
      have hx := (Trits.cons.1 ha).1
      have hy := (Trits.cons.1 hb).1
      have h1 : Trit (rest3 (x + y + c)) := by unfold Trit rest3 at *; omega
      have := ih ys (rest3 (x + y + c)) (by simpa using h) (Trits.cons.1 ha).2 (Trits.cons.1 hb).2 h1
      refine ⟨?_, Trits.cons.2 ⟨low3_trit _, this.2.1⟩, this.2.2⟩
      have e := this.1
      have e2 := low3_rest3 (x + y + c)
      simp only [add3, val, List.length_cons, pow3]
      rw [Int.mul_assoc]
      generalize pow3 xs.length * (add3 (rest3 (x + y + c)) xs ys).2.2 = t at *
      omega
theorem impl_carried_f (n : Int) (h0 : -4 ≤ n) (h1 : n ≤ 4) : impl_carried.f n = some (low3 n, rest3 n) := by
  unfold impl_carried.f low3 rest3
  by_cases h : n > 1
  · rw [if_pos h, w64 _ (by omega) (by omega)]
    refine congrArg some (Prod.ext ?_ ?_) <;> simp only <;> omega
  · rw [if_neg h]
    by_cases h' : n < -1
    · rw [if_pos h', w64 _ (by omega) (by omega)]
      refine congrArg some (Prod.ext ?_ ?_) <;> simp only <;> omega
    · rw [if_neg h']
      refine congrArg some (Prod.ext ?_ ?_) <;> simp only <;> omega
theorem impl_FullAdd_f (k : Nat) (a b c : Int) (hk : 2000001 ≤ k) (ha : Trit a) (hb : Trit b) (hc : Trit c) : impl_FullAdd.f k a b c = some (low3 (a + b + c), rest3 (a + b + c)) := by
  unfold impl_FullAdd.f
  have ht : Trits [a, b, c] := Trits.cons.2 ⟨ha, Trits.cons.2 ⟨hb, Trits.cons.2 ⟨hc, Trits.nil⟩⟩⟩
  unfold Trit at ha hb hc
  rw [impl_trits_f k [a, b, c] hk (by simp), bsome, if_pos (by simpa using ht), w64 (a + b) (by omega) (by omega), w64 _ (by omega) (by omega), impl_carried_f _ (by omega) (by omega), bsome]
theorem impl_added_l0 (a b : List Int) (hl : a.length ≤ 30) (hb : a.length = b.length) (ta : Trits a) (tb : Trits b) : ∀ (d k i : Nat) (c : Int) (u v : List Int), i + d = a.length → d + 2000002 < k → u.length ≤ i → v.length ≤ i → Trit c →
    impl_added.l0 k a b c u v (a.length : Int) (i : Int) = some (u ++ (add3 c (a.drop i) (b.drop i)).1, v ++ (add3 c (a.drop i) (b.drop i)).2.1, (add3 c (a.drop i) (b.drop i)).2.2) := by
  intro d
  induction d with
  | zero =>
    intro k i c u v h hk hu hv hc
    obtain ⟨k, rfl⟩ : ∃ m, k = m + 1 := ⟨k - 1, by omega⟩
    rw [impl_added.l0, if_neg (by omega), List.drop_eq_nil_of_le (by omega), List.drop_eq_nil_of_le (by omega)]
    simp [add3]
  | succ d ih =>
    intro k i c u v h hk hu hv hc
    obtain ⟨k, rfl⟩ : ∃ m, k = m + 1 := ⟨k - 1, by omega⟩
    have hx := ta _ (rd_mem a i (by omega))
    have hy := tb _ (rd_mem b i (by omega))
    rw [impl_added.l0, if_pos (by omega), if_pos (by omega), if_pos (by omega), if_pos (by omega), impl_FullAdd_f k _ _ _ (by omega) hx hy hc, bsome, if_pos (by omega), if_pos (by omega), w64 _ (by omega) (by omega)]
    rw [show ((i : Int) + 1) = ((i + 1 : Nat) : Int) from by omega]
    rw [ih k (i + 1) _ _ _ (by omega) (by omega) (by simp; omega) (by simp; omega) (by unfold Trit rest3 at *; omega), drop_rd a i (by omega), drop_rd b i (by omega)]
    simp [add3]
theorem impl_added_f (k : Nat) (a b : List Int) (c : Int) (hk : 3000000 ≤ k) (hl : a.length ≤ 30) (hb : a.length = b.length) (ta : Trits a) (tb : Trits b) (hc : Trit c) : impl_added.f k a b c = some (add3 c a b) := by
  unfold impl_added.f
  have := impl_added_l0 a b hl hb ta tb a.length k 0 c [] [] (by omega) (by omega) (by simp) (by simp) hc
  simpa using this
theorem impl_sameLength_f2 (k : Nat) (a b : List Int) (hk : 2000001 ≤ k) (ha : a.length ≤ 2000000) (hb : b.length ≤ 2000000) : impl_sameLength.f k [a, b] = some (decide (Word a ∧ Word b ∧ a.length = b.length)) := by
  unfold impl_sameLength.f
  rw [if_pos (by simp)]
  simp only [same_g, List.getD_cons_zero]
  rw [impl_IsWord_f k a hk ha, impl_IsWord_f k b hk hb]
  simp only [bsome, sameB]
  by_cases h1 : Word a <;> by_cases h2 : Word b <;> by_cases h3 : a.length = b.length <;> simp [h1, h2, h3] <;> omega
def addOf (a b : List Int) (c : Int) : List Int × Int × Bool := if Word a ∧ Word b ∧ a.length = b.length ∧ Trit c then ((add3 c a b).1, (add3 c a b).2.2, true) else ([], 0, false)
theorem impl_AddWords_f (k : Nat) (a b : List Int) (c : Int) (hk : 3000000 ≤ k) (ha : a.length ≤ 2000000) (hb : b.length ≤ 2000000) : impl_AddWords.f k a b c = some (addOf a b c) := by
  unfold impl_AddWords.f addOf
  rw [impl_IsTrit_f, bsome]
  by_cases h1 : Trit c
  · rw [if_pos (by simpa using h1), impl_sameLength_f2 k a b (by omega) ha hb, bsome]
    by_cases h2 : Word a ∧ Word b ∧ a.length = b.length
    · rw [if_pos (by simpa using h2), impl_added_f k a b c hk h2.1.2.1 h2.2.2 h2.1.2.2 h2.2.1.2.2 h1, bsome, if_pos ⟨h2.1, h2.2.1, h2.2.2, h1⟩]
    · rw [if_neg (by simpa using h2), if_neg (fun h => h2 ⟨h.1, h.2.1, h.2.2.1⟩)]
  · rw [if_neg (by simpa using h1), if_neg (fun h => h1 h.2.2.2)]
theorem impl_AddAhead_f (k : Nat) (a b : List Int) (c : Int) (hk : 3000000 ≤ k) (ha : a.length ≤ 2000000) (hb : b.length ≤ 2000000) : impl_AddAhead.f k a b c = some (addOf a b c) := by
  unfold impl_AddAhead.f
  rw [impl_AddWords_f k a b c hk ha hb, bsome]
def negOf (w : List Int) : List Int := if Word w then w.map (fun x => -x) else []
theorem negOf_len (w : List Int) : (negOf w).length ≤ 30 := by
  unfold negOf
  by_cases h : Word w
  · rw [if_pos h, List.length_map]; exact h.2.1
  · rw [if_neg h]; simp
theorem impl_negated_l0 (l : List Int) (hl : l.length ≤ 30) (ht : Trits l) : ∀ (d k i : Nat) (u : List Int), i + d = l.length → d < k → u.length ≤ i →
    impl_negated.l0 k u l (l.length : Int) (i : Int) = some (u ++ (l.drop i).map (fun x => -x)) := by
  intro d
  induction d with
  | zero =>
    intro k i u h hk hu
    obtain ⟨k, rfl⟩ : ∃ m, k = m + 1 := ⟨k - 1, by omega⟩
    rw [impl_negated.l0, if_neg (by omega), List.drop_eq_nil_of_le (by omega)]
    simp
  | succ d ih =>
    intro k i u h hk hu
    obtain ⟨k, rfl⟩ : ∃ m, k = m + 1 := ⟨k - 1, by omega⟩
    have hx := ht _ (rd_mem l i (by omega))
    unfold Trit at hx
    rw [impl_negated.l0, if_pos (by omega), if_pos (by omega), if_pos (by omega), if_pos (by omega), w64 _ (by omega) (by omega), w64 _ (by omega) (by omega), show ((i : Int) + 1) = ((i + 1 : Nat) : Int) from by omega, ih k (i + 1) _ (by omega) (by omega) (by simp; omega), drop_rd l i (by omega)]
    simp
theorem impl_NegateWord_f (k : Nat) (l : List Int) (hk : 2000001 ≤ k) (hl : l.length ≤ 2000000) : impl_NegateWord.f k l = some (negOf l) := by
  unfold impl_NegateWord.f negOf impl_negated.f
  rw [impl_IsWord_f k l hk hl, bsome]
  by_cases h : Word l
  · have := impl_negated_l0 l h.2.1 h.2.2 l.length k 0 [] (by omega) (by omega) (by simp)
    rw [if_pos (by simpa using h), if_pos h]
    rw [show ((0 : Nat) : Int) = 0 from rfl] at this
    rw [this, bsome]; simp
  · rw [if_neg (by simpa using h), if_neg h]
theorem impl_SubWords_f (k : Nat) (a b : List Int) (hk : 3000000 ≤ k) (ha : a.length ≤ 2000000) (hb : b.length ≤ 2000000) : impl_SubWords.f k a b = some (addOf a (negOf b) 0) := by
  unfold impl_SubWords.f
  have := negOf_len b
  rw [impl_NegateWord_f k b (by omega) hb, bsome, impl_AddWords_f k a _ 0 hk ha (by omega), bsome]
theorem laws_ints_l0 (a b : List Int) (hl : a.length ≤ 2000000) (hb : a.length = b.length) : ∀ (d k i : Nat), i + d = a.length → d < k →
    laws_ints.l0 k a b (a.length : Int) (i : Int) = some (decide (a.drop i = b.drop i)) := by
  intro d
  induction d with
  | zero =>
    intro k i h hk
    obtain ⟨k, rfl⟩ : ∃ m, k = m + 1 := ⟨k - 1, by omega⟩
    simp only [laws_ints.l0]
    rw [if_neg (by omega), List.drop_eq_nil_of_le (by omega), List.drop_eq_nil_of_le (by omega)]; simp
  | succ d ih =>
    intro k i h hk
    obtain ⟨k, rfl⟩ : ∃ m, k = m + 1 := ⟨k - 1, by omega⟩
    simp only [laws_ints.l0]
    rw [if_pos (by omega), if_pos (by omega), if_pos (by omega), if_pos (by omega), drop_rd a i (by omega), drop_rd b i (by omega), w64 _ (by omega) (by omega)]
    by_cases c : rd a (i : Int) = rd b (i : Int)
    · rw [if_pos c, show (i : Int) + 1 = ((i + 1 : Nat) : Int) from by omega, ih k (i + 1) (by omega) (by omega)]
      simp [c]
    · rw [if_neg c]; simp [c]
theorem laws_ints_f (k : Nat) (a b : List Int) (hk : 2000001 ≤ k) (hl : a.length ≤ 2000000) : laws_ints.f k a b = some (decide (a = b)) := by
  unfold laws_ints.f
  by_cases h : a.length = b.length
  · rw [if_pos (by omega)]
    have := laws_ints_l0 a b hl h a.length k 0 (by omega) (by omega)
    simpa using this
  · rw [if_neg (by omega)]
    have : a ≠ b := fun e => h (by rw [e])
    simp [this]
theorem spec_MakeExact_f (k : Nat) (l : List Int) (m : Int) (hk : 2000002 ≤ k) (hl : l.length ≤ 2000000) (h1 : 1 ≤ m) (h2 : m ≤ 30) : ∃ w, spec_MakeExact.f k l m = some w ∧ Word w ∧ (w.length : Int) = m := by
  obtain ⟨h, e⟩ := spec_l01New_f k l hk hl
  have em : mx 1 (mn m 30) = m := by unfold mx mn; split <;> split <;> omega
  have key : ∀ (d k j : Nat) (acc : List Int) (i h : Int), (j : Int) + d = m → d < k → acc.length = j → Trits acc → 0 ≤ i → ∃ w, spec_MakeExact.l0 k m acc (j : Int) l i h = some w ∧ (w.length : Int) = m ∧ Trits w := by
    intro d
    induction d with
    | zero =>
      intro k j acc i h e hk ha ht hi
      obtain ⟨k, rfl⟩ : ∃ m, k = m + 1 := ⟨k - 1, by omega⟩
      rw [spec_MakeExact.l0, em, if_neg (by omega)]
      exact ⟨acc, rfl, by omega, ht⟩
    | succ d ih =>
      intro k j acc i h e hk ha ht hi
      obtain ⟨k, rfl⟩ : ∃ m, k = m + 1 := ⟨k - 1, by omega⟩
      obtain ⟨r, i', h', er, hr, hi'⟩ := spec_l01Below_f l i h 3 hl hi (by omega) (by omega)
      rw [spec_MakeExact.l0, em, if_pos (by omega), er, bsome, if_pos (by omega), w64 _ (by omega) (by omega), w64 _ (by omega) (by omega), show ((j : Int) + 1) = ((j + 1 : Nat) : Int) from by omega]
      refine ih k (j + 1) _ i' h' (by omega) (by omega) (by simp; omega) ?_ hi'
      intro x hx
      rcases List.mem_append.1 hx with hx | hx
      · exact ht x hx
      · rw [List.mem_singleton.1 hx]
        unfold Trit; omega
  unfold spec_MakeExact.f
  rw [e, bsome]
  obtain ⟨w, ew, lw, tw⟩ := key m.toNat k 0 [] 0 h (by omega) (by omega) rfl (fun x hx => by simp at hx) (by omega)
  exact ⟨w, ew, ⟨by omega, by omega, tw⟩, lw⟩
theorem add3_comm (a : List Int) : ∀ (b : List Int) (c : Int), add3 c b a = add3 c a b := by
  induction a with
  | nil =>
    intro b c
    cases b with
    | nil => rfl
    | cons y ys => rfl
  | cons x xs ih =>
    intro b c
    cases b with
    | nil => rfl
    | cons y ys => simp only [add3, ih, Int.add_comm y x]
theorem addOf_yes {a b : List Int} {c : Int} (ha : Word a) (hb : Word b) (hl : a.length = b.length) (hc : Trit c) : addOf a b c = ((add3 c a b).1, (add3 c a b).2.2, true) := if_pos ⟨ha, hb, hl, hc⟩
theorem val_neg (w : List Int) : val (w.map (fun x => -x)) = -val w := by
  induction w with
  | nil => rfl
  | cons x w ih => simp only [List.map_cons, val, ih]; omega
theorem neg_word {w : List Int} (h : Word w) : Word (w.map (fun x => -x)) := by
  refine ⟨by rw [List.length_map]; exact h.1, by rw [List.length_map]; exact h.2.1, fun x hx => ?_⟩
  obtain ⟨y, hy, rfl⟩ := List.mem_map.1 hx
  have := h.2.2 y hy
  unfold Trit at *; omega
theorem sum_eq (n : Nat) (s a b q y : Int) (hn : n ≤ 30) (S : s + pow3 n * y = a + b + q) (hy : Trit y) (hq : Trit q) (ha : -102945566047324 ≤ a ∧ a ≤ 102945566047324) (hb : -102945566047324 ≤ b ∧ b ≤ 102945566047324) (hs : -102945566047324 ≤ s ∧ s ≤ 102945566047324) :
    wrap64 (s + wrap64 (wrap64 (wrap64 (2 * lim n) + 1) * y)) = wrap64 (wrap64 (a + b) + q) := by
  have l0 := lim_nonneg n
  have l1 : lim n ≤ lim 30 := lim_mono hn
  rw [lim30] at l1
  unfold Trit at hy hq
  rw [w64 (2 * lim n) (by omega) (by omega), w64 (2 * lim n + 1) (by omega) (by omega), ← pow3_lim, w64 (pow3 n * y) (by omega) (by omega), S, w64 (a + b) (by omega) (by omega)]
end FnAddersParts
open FnAddersParts
attribute [local congr] bind_left

theorem FnAdders : laws_FnAdders.Pure := by
  intro l0 _ hl hwf
  obtain ⟨K, hK⟩ : ∃ K, 100000000 ≤ K := ⟨_, Nat.le_refl _⟩
  refine ⟨K, ?_⟩
  unfold laws_FnAdders.f
  by_cases h0 : (l0.length : Int) > 1048576
  · rw [if_pos h0]
  obtain ⟨t, et, ht⟩ := laws_at_f l0 1 (by omega) hwf (by omega) (by omega)
  have mt := (tmod_range (n := t) (m := 30) (by omega)).1 ht.1
  obtain ⟨a, ea, ha, la⟩ := spec_MakeExact_f K l0 (1 + Int.tmod t 30) (by omega) (by omega) (by omega) (by omega)
  obtain ⟨c, ec, hc⟩ := laws_fresh_f K l0 3 (by omega) (by omega)
  obtain ⟨b, eb, hb, lb⟩ := spec_MakeExact_f K c (a.length : Int) (by omega) (by omega) (by omega) (by omega)
  obtain ⟨u, eu, hu⟩ := laws_at_f l0 2 (by omega) hwf (by omega) (by omega)
  have mu := (tmod_range (n := u) (m := 3) (by omega)).1 hu.1
  have hq : Trit (Int.tmod u 3 - 1) := by unfold Trit; omega
  rw [if_neg h0, et, bsome, w64 (1 + _) (by omega) (by omega), ea, bsome, ec, bsome, eb, bsome, eu, bsome, w64 (Int.tmod u 3 - 1) (by omega) (by omega)]
  generalize Int.tmod u 3 - 1 = q at *
  have hab : a.length = b.length := by omega
  have hn := neg_word hb
  have ln : (b.map (fun x => -x)).length = b.length := List.length_map _
  have en : negOf b = b.map (fun x => -x) := if_pos hb
  have h1 := add3_val a b q hab ha.2.2 hb.2.2 hq
  have h2 := add3_val a (b.map (fun x => -x)) 0 (by omega) ha.2.2 hn.2.2 (by unfold Trit; omega)
  have k1 := (add3_len a b q hab).1
  have k2 := (add3_len a (b.map (fun x => -x)) 0 (by omega)).1
  rw [val_neg] at h2
  have a1 := ha.1
  have a2 := ha.2.1
  rw [impl_AddWords_f K a b q (by omega) (by omega) (by omega), addOf_yes ha hb hab hq, bsome, impl_AddAhead_f K b a q (by omega) (by omega) (by omega), addOf_yes hb ha hab.symm hq, bsome, impl_SubWords_f K a b (by omega) (by omega) (by omega), en, addOf_yes ha hn (by omega) (by unfold Trit; omega), bsome, impl_LimitOf_f K _ (by omega), bsome, if_pos (by omega : (1 : Int) ≤ (a.length : Int) ∧ (a.length : Int) ≤ 30), add3_comm a b q]
  rw [show ((a.length : Int)).toNat = a.length from by omega]
  generalize add3 q a b = r at *
  generalize add3 0 a (b.map (fun x => -x)) = r2 at *
  have hw1 : Word r.1 := ⟨by omega, by omega, h1.2.1⟩
  have hw2 : Word r2.1 := ⟨by omega, by omega, h2.2.1⟩
  have b1 := hw1.bd
  have b2 := hw2.bd
  have ba := ha.bd
  have bb := hb.bd
  rw [lim30] at b1 b2 ba bb
  have e1 := sum_eq a.length (val r.1) (val a) (val b) q r.2.2 a2 h1.1 h1.2.2 hq ba bb b1
  have e2 := sum_eq a.length (val r2.1) (val a) (-val b) 0 r2.2.2 a2 h2.1 h2.2.2 (by unfold Trit; omega) ba (by omega) b2
  rw [w64 (val a + -val b) (by omega) (by omega)] at e2
  have v1 := impl_ValueOf_f K r.1 (by omega) (by omega)
  have v2 := impl_ValueOf_f K r2.1 (by omega) (by omega)
  have va := impl_ValueOf_f K a (by omega) (by omega)
  have vb := impl_ValueOf_f K b (by omega) (by omega)
  rw [if_pos hw1] at v1
  rw [if_pos hw2] at v2
  rw [if_pos ha] at va
  rw [if_pos hb] at vb
  have i1 := laws_ints_f K r.1 r.1 (by omega) (by omega)
  have e3 : wrap64 (val a + -val b + 0) = wrap64 (val a - val b) := by congr 1; omega
  rw [e3] at e2
  simp (disch := omega) only [↓if_pos, ↓reduceIte, bsome, decide_true, i1, impl_IsTrit_f, h1.2.2, v1, v2, va, vb, e2, k1, beq_self_eq_true]

end Go.Proofs.Ytcgfcnpiekcofaa.Pure
