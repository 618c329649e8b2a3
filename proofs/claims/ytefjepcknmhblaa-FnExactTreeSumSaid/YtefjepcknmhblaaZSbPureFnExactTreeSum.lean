/- For all lists of words the program's TreeSum gives what the reference gives, changes no argument, and shares no memory; no condition. -/
import Derived.Test.YtefjepcknmhblaaZSbPZ0
import Derived.Test.YtefjepcknmhblaaZSbGlue
namespace Go.Proofs.Ytefjepcknmhblaa.Pure
open Go.RowKit Go.Proofs.Ytefjepcknmhblaa.Tern Go.Proofs.Ytefjepcknmhblaa.P Go.Proofs.YtefjepcknmhblaaW.PrintWords Go.Proofs.YtefjepcknmhblaaW.PrintLast
set_option linter.unusedVariables false
set_option linter.unusedSimpArgs false

namespace FnExactTreeSumParts
theorem impl_IsTrit_f (a : Int) : impl_IsTrit.f a = some (decide (Trit a)) := by
  unfold impl_IsTrit.f Trit
  split
  · rename_i h
    simp [show -1 ≤ a from h]
  · rename_i h
    have : ¬ (-1 ≤ a) := h
    simp [this]
theorem spec_IsTrit_f (a : Int) : spec_IsTrit.f a = some (decide (Trit a)) := by
  unfold spec_IsTrit.f spec_l1In.f Trit
  split
  · rename_i h
    simp [show -1 ≤ a from h]
  · rename_i h
    have : ¬ (-1 ≤ a) := h
    simp [this]
theorem spec_l1In_f (x a b : Int) : spec_l1In.f x a b = some (decide (a ≤ x ∧ x ≤ b)) := by
  unfold spec_l1In.f
  split
  · rename_i h
    simp [show a ≤ x from h]
  · rename_i h
    have : ¬ (a ≤ x) := h
    simp [this]
theorem impl_trits_l0 (l : List Int) (hl : l.length ≤ 2000000) : ∀ (d k i : Nat), i + d = l.length → d < k →
    impl_trits.l0 k l (l.length : Int) (i : Int) = some (decide (Trits (l.drop i))) := by
  intro d
  induction d with
  | zero =>
    intro k i h hk
    obtain ⟨k, rfl⟩ : ∃ m, k = m + 1 := ⟨k - 1, by omega⟩
    simp only [impl_trits.l0]
    rw [if_neg (by omega), List.drop_eq_nil_of_le (by omega)]
    simp [Trits.nil]
  | succ d ih =>
    intro k i h hk
    obtain ⟨k, rfl⟩ : ∃ m, k = m + 1 := ⟨k - 1, by omega⟩
    simp only [impl_trits.l0]
    rw [if_pos (by omega), if_pos (by omega), if_pos (by omega), impl_IsTrit_f, drop_rd l i (by omega)]
    simp only [bsome, Trits.cons]
    by_cases ht : Trit (rd l (i : Int))
    · rw [if_pos (by simpa using ht), w64 _ (by omega) (by omega)]
      have := ih k (i + 1) (by omega) (by omega)
      rw [show ((i + 1 : Nat) : Int) = (i : Int) + 1 from by omega] at this
      rw [this]; simp [ht]
    · rw [if_neg (by simpa using ht)]; simp [ht]
theorem impl_trits_f (k : Nat) (l : List Int) (hk : 2000001 ≤ k) (hl : l.length ≤ 2000000) : impl_trits.f k l = some (decide (Trits l)) := by
  unfold impl_trits.f
  have := impl_trits_l0 l hl l.length k 0 (by omega) (by omega)
  simpa using this
theorem impl_IsWord_f (k : Nat) (l : List Int) (hk : 2000001 ≤ k) (hl : l.length ≤ 2000000) : impl_IsWord.f k l = some (decide (Word l)) := by
  unfold impl_IsWord.f Word
  rw [impl_trits_f k l hk hl]
  by_cases h1 : 1 ≤ l.length
  · rw [if_pos (by omega)]
    by_cases h2 : l.length ≤ 30
    · rw [if_pos (by omega)]; simp [h1, h2]
    · rw [if_neg (by omega)]; simp [h2]
  · rw [if_neg (by omega)]; simp [h1]
theorem spec_IsWord_l0 (l : List Int) (hl : l.length ≤ 2000000) : ∀ (d k i : Nat), i + d = l.length → d < k →
    spec_IsWord.l0 k l l (l.length : Int) (i : Int) = some (decide (1 ≤ l.length ∧ l.length ≤ 30 ∧ Trits (l.drop i))) := by
  intro d
  induction d with
  | zero =>
    intro k i h hk
    obtain ⟨k, rfl⟩ : ∃ m, k = m + 1 := ⟨k - 1, by omega⟩
    simp only [spec_IsWord.l0]
    rw [if_neg (by omega), List.drop_eq_nil_of_le (by omega), spec_l1In_f]
    have e : (1 ≤ (l.length : Int) ∧ (l.length : Int) ≤ 30) = (1 ≤ l.length ∧ l.length ≤ 30) := by apply propext; omega
    simp [Trits.nil, e]
  | succ d ih =>
    intro k i h hk
    obtain ⟨k, rfl⟩ : ∃ m, k = m + 1 := ⟨k - 1, by omega⟩
    simp only [spec_IsWord.l0]
    rw [if_pos (by omega), if_pos (by omega), if_pos (by omega), spec_IsTrit_f, drop_rd l i (by omega)]
    simp only [bsome, Trits.cons]
    by_cases ht : Trit (rd l (i : Int))
    · rw [if_pos (by simpa using ht), w64 _ (by omega) (by omega)]
      have := ih k (i + 1) (by omega) (by omega)
      rw [show ((i + 1 : Nat) : Int) = (i : Int) + 1 from by omega] at this
      rw [this]; simp [ht]
    · rw [if_neg (by simpa using ht)]; simp [ht]
theorem spec_IsWord_f (k : Nat) (l : List Int) (hk : 2000001 ≤ k) (hl : l.length ≤ 2000000) : spec_IsWord.f k l = some (decide (Word l)) := by
  unfold spec_IsWord.f Word
  exact spec_IsWord_l0 l hl l.length k 0 (by omega) (by omega)
theorem laws_toIntS_l0 (l : List Int) (hl : l.length ≤ 2000000) : ∀ (d k i : Nat), i + d = l.length → d < k →
    laws_toIntS.l0 k l (l.take i ++ List.replicate d 0) (i : Int) = some l := by
  intro d
  induction d with
  | zero =>
    intro k i h hk
    obtain ⟨k, rfl⟩ : ∃ m, k = m + 1 := ⟨k - 1, by omega⟩
    simp only [laws_toIntS.l0]
    rw [if_neg (by omega)]; simp [List.take_of_length_le (show l.length ≤ i by omega)]
  | succ d ih =>
    intro k i h hk
    obtain ⟨k, rfl⟩ : ∃ m, k = m + 1 := ⟨k - 1, by omega⟩
    have hlen : (l.take i).length = i := by rw [List.length_take]; omega
    simp only [laws_toIntS.l0]
    rw [if_pos (by omega), if_pos (by omega), if_pos (by rw [List.length_append, List.length_replicate, hlen]; omega), w64 _ (by omega) (by omega)]
    have e : (l.take i ++ List.replicate (d + 1) (0 : Int)).set (i : Int).toNat (rd l (i : Int)) = l.take (i + 1) ++ List.replicate d 0 := by
      have h1 := set_append_len (l.take i) 0 (rd l (i : Int)) (List.replicate d 0)
      rw [hlen] at h1
      rw [Int.toNat_natCast, List.replicate_succ, h1, take_rd l i (by omega), List.append_assoc]; rfl
    rw [e, show (i : Int) + 1 = ((i + 1 : Nat) : Int) from by omega]
    exact ih k (i + 1) (by omega) (by omega)
theorem laws_toIntS_f (k : Nat) (l : List Int) (hk : 2000001 ≤ k) (hl : l.length ≤ 2000000) : laws_toIntS.f k l = some l := by
  unfold laws_toIntS.f
  rw [if_pos (by omega), if_pos (by omega)]
  have := laws_toIntS_l0 l hl l.length k 0 (by omega) (by omega)
  simpa using this
theorem laws_eqIntS_l0 (a b : List Int) (hl : a.length ≤ 2000000) (hb : a.length = b.length) : ∀ (d k i : Nat), i + d = a.length → d < k →
    laws_eqIntS.l0 k a b (i : Int) = some (decide (a.drop i = b.drop i)) := by
  intro d
  induction d with
  | zero =>
    intro k i h hk
    obtain ⟨k, rfl⟩ : ∃ m, k = m + 1 := ⟨k - 1, by omega⟩
    simp only [laws_eqIntS.l0]
    rw [if_neg (by omega), List.drop_eq_nil_of_le (by omega), List.drop_eq_nil_of_le (by omega)]; simp
  | succ d ih =>
    intro k i h hk
    obtain ⟨k, rfl⟩ : ∃ m, k = m + 1 := ⟨k - 1, by omega⟩
    simp only [laws_eqIntS.l0]
    rw [if_pos (by omega), if_pos (by omega), if_pos (by omega), drop_rd a i (by omega), drop_rd b i (by omega), w64 _ (by omega) (by omega)]
    by_cases c : rd a (i : Int) = rd b (i : Int)
    · rw [if_pos c, show (i : Int) + 1 = ((i + 1 : Nat) : Int) from by omega, ih k (i + 1) (by omega) (by omega)]
      simp [c]
    · rw [if_neg c]; simp [c]
theorem laws_eqIntS_f (k : Nat) (a b : List Int) (hk : 2000001 ≤ k) (hl : a.length ≤ 2000000) : laws_eqIntS.f k a b = some (decide (a = b)) := by
  unfold laws_eqIntS.f
  by_cases h : a.length = b.length
  · rw [if_pos (by omega)]
    have := laws_eqIntS_l0 a b hl h a.length k 0 (by omega) (by omega)
    simpa using this
  · rw [if_neg (by omega)]
    have : a ≠ b := fun e => h (by rw [e])
    simp [this]
theorem laws_markIntS_l0 : ∀ (rest pre : List Int) (k : Nat) (m : Int), (pre ++ rest).length ≤ 2000000 → rest.length < k → 0 ≤ m → m ≤ 1000000000000 → m + rest.length ≤ 1000000000000 →
    laws_markIntS.l0 k (pre ++ rest) m (pre.length : Int) = some (m + rest.length, pre ++ marks m rest.length) := by
  intro rest
  induction rest with
  | nil =>
    intro pre k m hl hk h0 h1 h2
    obtain ⟨k, rfl⟩ : ∃ m, k = m + 1 := ⟨k - 1, by simp only [List.length_nil] at hk; omega⟩
    simp only [laws_markIntS.l0]
    rw [if_neg (by simp)]; simp [marks]
  | cons x rest ih =>
    intro pre k m hl hk h0 h1 h2
    simp only [List.length_cons, List.length_append] at *
    obtain ⟨k, rfl⟩ : ∃ m, k = m + 1 := ⟨k - 1, by omega⟩
    simp only [laws_markIntS.l0]
    rw [if_pos (by simp only [List.length_append, List.length_cons]; omega), if_pos (by omega), Int.toNat_natCast, set_append_len, w64 _ (by omega) (by omega), w64 _ (by omega) (by omega)]
    have := ih (pre ++ [m]) k (m + 1) (by simp; omega) (by omega) (by omega) (by omega) (by omega)
    simp only [List.append_assoc, List.singleton_append, List.length_append, List.length_singleton] at this
    rw [show (pre.length : Int) + 1 = ((pre.length + 1 : Nat) : Int) from by omega, this]
    simp [marks]; omega
theorem laws_markIntS_f (k : Nat) (l : List Int) (m : Int) (hk : 2000001 ≤ k) (hl : l.length ≤ 2000000) (h0 : 0 ≤ m) (h1 : m ≤ 10000000000) : laws_markIntS.f k l m = some (m + l.length, marks m l.length) := by
  unfold laws_markIntS.f
  have := laws_markIntS_l0 l [] k m (by simpa using hl) (by omega) h0 (by omega) (by omega)
  simpa using this
theorem laws_heldIntS_l0 (l : List Int) (hl : l.length ≤ 2000000) : ∀ (d k i : Nat) (m : Int), i + d = l.length → d < k → 0 ≤ m → m + d ≤ 1000000000000 →
    laws_heldIntS.l0 k l m (i : Int) = some (if l.drop i = marks m d then m + d else -1) := by
  intro d
  induction d with
  | zero =>
    intro k i m h hk h0 h1
    obtain ⟨k, rfl⟩ : ∃ m, k = m + 1 := ⟨k - 1, by omega⟩
    simp only [laws_heldIntS.l0]
    rw [if_neg (by omega), List.drop_eq_nil_of_le (by omega)]; simp [marks]
  | succ d ih =>
    intro k i m h hk h0 h1
    obtain ⟨k, rfl⟩ : ∃ m, k = m + 1 := ⟨k - 1, by omega⟩
    simp only [laws_heldIntS.l0]
    rw [if_pos (by omega), if_pos (by omega), drop_rd l i (by omega), w64 _ (by omega) (by omega), w64 _ (by omega) (by omega)]
    simp only [marks, List.cons.injEq]
    by_cases c : rd l (i : Int) = m
    · rw [if_pos c, show (i : Int) + 1 = ((i + 1 : Nat) : Int) from by omega, ih k (i + 1) (m + 1) (by omega) (by omega) (by omega) (by omega)]
      simp only [c, true_and]
      split
      · congr 1; omega
      · rfl
    · rw [if_neg c, if_neg (fun hh => c hh.1)]
theorem laws_heldIntS_f (k : Nat) (l : List Int) (m : Int) (hk : 2000001 ≤ k) (hl : l.length ≤ 2000000) (h0 : 0 ≤ m) (h1 : m ≤ 10000000000) : laws_heldIntS.f k l m = some (if l = marks m l.length then m + l.length else -1) := by
  unfold laws_heldIntS.f
  have := laws_heldIntS_l0 l hl l.length k 0 m (by omega) (by omega) h0 (by omega)
  simpa using this
theorem laws_heldIntS_marks (k : Nat) (m : Int) (n : Nat) (hk : 2000001 ≤ k) (hl : n ≤ 2000000) (h0 : 0 ≤ m) (h1 : m ≤ 10000000000) : laws_heldIntS.f k (marks m n) m = some (m + n) := by
  rw [laws_heldIntS_f k (marks m n) m hk (by rw [length_marks]; exact hl) h0 h1, length_marks, if_pos rfl]
def add3 (c : Int) : List Int → List Int → List Int × List Int × Int
  | x :: xs, y :: ys => (low3 (x + y + c) :: (add3 (rest3 (x + y + c)) xs ys).1, c :: (add3 (rest3 (x + y + c)) xs ys).2.1, (add3 (rest3 (x + y + c)) xs ys).2.2)
  | _, _ => ([], [], c)
theorem add3_len (a : List Int) : ∀ (b : List Int) (c : Int), a.length = b.length → (add3 c a b).1.length = a.length ∧ (add3 c a b).2.1.length = a.length := by
  induction a with
  | nil =>
    intro b c h
    cases b with
    | nil => exact ⟨rfl, rfl⟩
    | cons y ys => simp at h
  | cons x xs ih =>
    intro b c h
    cases b with
    | nil => simp at h
    | cons y ys =>
      have := ih ys (rest3 (x + y + c)) (by simpa using h)
      simp only [add3, List.length_cons, this.1, this.2, and_self]
theorem impl_carried_f (n : Int) (h0 : -4 ≤ n) (h1 : n ≤ 4) : impl_carried.f n = some (low3 n, rest3 n) := by
  unfold impl_carried.f low3 rest3
  by_cases h : n > 1
  · rw [if_pos h, w64 _ (by omega) (by omega)]
    refine congrArg some (Prod.ext ?_ ?_) <;> simp only <;> omega
  · rw [if_neg h]
    by_cases h' : n < -1
    · rw [if_pos h', w64 _ (by omega) (by omega)]
      refine congrArg some (Prod.ext ?_ ?_) <;> simp only <;> omega
    · rw [if_neg h']
      refine congrArg some (Prod.ext ?_ ?_) <;> simp only <;> omega
theorem impl_FullAdd_f (k : Nat) (a b c : Int) (hk : 2000001 ≤ k) (ha : Trit a) (hb : Trit b) (hc : Trit c) : impl_FullAdd.f k a b c = some (low3 (a + b + c), rest3 (a + b + c)) := by
  unfold impl_FullAdd.f
  have ht : Trits [a, b, c] := Trits.cons.2 ⟨ha, Trits.cons.2 ⟨hb, Trits.cons.2 ⟨hc, Trits.nil⟩⟩⟩
  unfold Trit at ha hb hc
  rw [impl_trits_f k [a, b, c] hk (by simp), bsome, if_pos (by simpa using ht), w64 (a + b) (by omega) (by omega), w64 _ (by omega) (by omega), impl_carried_f _ (by omega) (by omega), bsome]
theorem impl_added_l0 (a b : List Int) (hl : a.length ≤ 1000) (hb : a.length = b.length) (ta : Trits a) (tb : Trits b) : ∀ (d k i : Nat) (c : Int) (u v : List Int), i + d = a.length → d + 2000002 < k → u.length ≤ i → v.length ≤ i → Trit c →
    impl_added.l0 k a b c u v (a.length : Int) (i : Int) = some (u ++ (add3 c (a.drop i) (b.drop i)).1, v ++ (add3 c (a.drop i) (b.drop i)).2.1, (add3 c (a.drop i) (b.drop i)).2.2) := by
  intro d
  induction d with
  | zero =>
    intro k i c u v h hk hu hv hc
    obtain ⟨k, rfl⟩ : ∃ m, k = m + 1 := ⟨k - 1, by omega⟩
    rw [impl_added.l0, if_neg (by omega), List.drop_eq_nil_of_le (by omega), List.drop_eq_nil_of_le (by omega)]
    simp [add3]
  | succ d ih =>
    intro k i c u v h hk hu hv hc
    obtain ⟨k, rfl⟩ : ∃ m, k = m + 1 := ⟨k - 1, by omega⟩
    have hx := ta _ (rd_mem a i (by omega))
    have hy := tb _ (rd_mem b i (by omega))
    rw [impl_added.l0, if_pos (by omega), if_pos (by omega), if_pos (by omega), if_pos (by omega), impl_FullAdd_f k _ _ _ (by omega) hx hy hc, bsome, if_pos (by omega), if_pos (by omega), w64 _ (by omega) (by omega)]
    rw [show ((i : Int) + 1) = ((i + 1 : Nat) : Int) from by omega]
    rw [ih k (i + 1) _ _ _ (by omega) (by omega) (by simp; omega) (by simp; omega) (by unfold Trit rest3 at *; omega), drop_rd a i (by omega), drop_rd b i (by omega)]
    simp [add3]
theorem impl_added_f (k : Nat) (a b : List Int) (c : Int) (hk : 3000000 ≤ k) (hl : a.length ≤ 1000) (hb : a.length = b.length) (ta : Trits a) (tb : Trits b) (hc : Trit c) : impl_added.f k a b c = some (add3 c a b) := by
  unfold impl_added.f
  have := impl_added_l0 a b hl hb ta tb a.length k 0 c [] [] (by omega) (by omega) (by simp) (by simp) hc
  simpa using this
theorem impl_sameLength_f2 (k : Nat) (a b : List Int) (hk : 2000001 ≤ k) (ha : a.length ≤ 2000000) (hb : b.length ≤ 2000000) : impl_sameLength.f k [a, b] = some (decide (Word a ∧ Word b ∧ a.length = b.length)) := by
  unfold impl_sameLength.f
  rw [if_pos (by simp)]
  simp only [same_g, List.getD_cons_zero]
  rw [impl_IsWord_f k a hk ha, impl_IsWord_f k b hk hb]
  simp only [bsome, sameB]
  by_cases h1 : Word a <;> by_cases h2 : Word b <;> by_cases h3 : a.length = b.length <;> simp [h1, h2, h3] <;> omega
def addOf (a b : List Int) (c : Int) : List Int × Int × Bool := if Word a ∧ Word b ∧ a.length = b.length ∧ Trit c then ((add3 c a b).1, (add3 c a b).2.2, true) else ([], 0, false)
theorem impl_AddWords_f (k : Nat) (a b : List Int) (c : Int) (hk : 3000000 ≤ k) (ha : a.length ≤ 2000000) (hb : b.length ≤ 2000000) : impl_AddWords.f k a b c = some (addOf a b c) := by
  unfold impl_AddWords.f addOf
  rw [impl_IsTrit_f, bsome]
  by_cases h1 : Trit c
  · rw [if_pos (by simpa using h1), impl_sameLength_f2 k a b (by omega) ha hb, bsome]
    by_cases h2 : Word a ∧ Word b ∧ a.length = b.length
    · rw [if_pos (by simpa using h2), impl_added_f k a b c hk (Nat.le_trans h2.1.2.1 (by decide)) h2.2.2 h2.1.2.2 h2.2.1.2.2 h1, bsome, if_pos ⟨h2.1, h2.2.1, h2.2.2, h1⟩]
    · rw [if_neg (by simpa using h2), if_neg (fun h => h2 ⟨h.1, h.2.1, h.2.2.1⟩)]
  · rw [if_neg (by simpa using h1), if_neg (fun h => h1 h.2.2.2)]
theorem spec_l1Parts_f (k : Nat) (n : Int) (hk : 5 ≤ k) (h0 : -4 ≤ n) (h1 : n ≤ 4) : spec_l1Parts.f k n = some (low3 n, rest3 n) := by
  obtain ⟨k, rfl⟩ : ∃ m, k = m + 4 := ⟨k - 4, by omega⟩
  have : n = -4 ∨ n = -3 ∨ n = -2 ∨ n = -1 ∨ n = 0 ∨ n = 1 ∨ n = 2 ∨ n = 3 ∨ n = 4 := by omega
  rcases this with rfl | rfl | rfl | rfl | rfl | rfl | rfl | rfl | rfl <;> simp [spec_l1Parts.f, spec_l1Parts.l0, spec_l1Parts.l1, low3, rest3, wrap64]
theorem spec_FullAdd_f (k : Nat) (a b c : Int) (hk : 2000001 ≤ k) (ha : Trit a) (hb : Trit b) (hc : Trit c) : spec_FullAdd.f k a b c = some (low3 (a + b + c), rest3 (a + b + c)) := by
  unfold spec_FullAdd.f spec_l1Two.f
  rw [spec_IsTrit_f, spec_IsTrit_f, spec_IsTrit_f, bsome, if_pos (by simpa using ha), bsome, bsome, if_pos (by simpa using hb), bsome, if_pos (by simpa using hc)]
  unfold Trit at ha hb hc
  rw [w64 (a + b) (by omega) (by omega), w64 _ (by omega) (by omega), spec_l1Parts_f _ _ (by omega) (by omega) (by omega), bsome]
theorem spec_l3Add_l0 (a b : List Int) (hl : a.length ≤ 30) (hb : a.length = b.length) (ta : Trits a) (tb : Trits b) : ∀ (d k i : Nat) (c : Int) (u v : List Int), i + d = a.length → d + 2000002 < k → u.length ≤ i → v.length ≤ i → Trit c →
    spec_l3Add.l0 k b c u v a (a.length : Int) (i : Int) = some (u ++ (add3 c (a.drop i) (b.drop i)).1, v ++ (add3 c (a.drop i) (b.drop i)).2.1, (add3 c (a.drop i) (b.drop i)).2.2) := by
  intro d
  induction d with
  | zero =>
    intro k i c u v h hk hu hv hc
    obtain ⟨k, rfl⟩ : ∃ m, k = m + 1 := ⟨k - 1, by omega⟩
    rw [spec_l3Add.l0, if_neg (by omega), List.drop_eq_nil_of_le (by omega), List.drop_eq_nil_of_le (by omega)]
    simp [add3]
  | succ d ih =>
    intro k i c u v h hk hu hv hc
    obtain ⟨k, rfl⟩ : ∃ m, k = m + 1 := ⟨k - 1, by omega⟩
    have hx := ta _ (rd_mem a i (by omega))
    have hy := tb _ (rd_mem b i (by omega))
    rw [spec_l3Add.l0, if_pos (by omega), if_pos (by omega), if_pos (by omega), if_pos (by omega), if_pos (by omega), spec_FullAdd_f k _ _ _ (by omega) hx hy hc, bsome, if_pos (by omega), w64 _ (by omega) (by omega)]
    rw [show ((i : Int) + 1) = ((i + 1 : Nat) : Int) from by omega]
    rw [ih k (i + 1) _ _ _ (by omega) (by omega) (by simp; omega) (by simp; omega) (by unfold Trit rest3 at *; omega), drop_rd a i (by omega), drop_rd b i (by omega)]
    simp [add3]
theorem spec_l3Add_f (k : Nat) (a b : List Int) (c : Int) (hk : 3000000 ≤ k) (hl : a.length ≤ 30) (hb : a.length = b.length) (ta : Trits a) (tb : Trits b) (hc : Trit c) : spec_l3Add.f k a b c = some (add3 c a b) := by
  unfold spec_l3Add.f
  have := spec_l3Add_l0 a b hl hb ta tb a.length k 0 c [] [] (by omega) (by omega) (by simp) (by simp) hc
  simpa using this
theorem spec_l3Fit_f (k : Nat) (a b : List Int) (hk : 2000001 ≤ k) (ha : a.length ≤ 2000000) (hb : b.length ≤ 2000000) : spec_l3Fit.f k a b = some (decide (Word a ∧ Word b ∧ a.length = b.length)) := by
  unfold spec_l3Fit.f
  rw [spec_IsWord_f k a hk ha, spec_IsWord_f k b hk hb]
  simp only [bsome]
  by_cases h1 : Word a <;> by_cases h2 : Word b <;> by_cases h3 : a.length = b.length <;> simp [h1, h2, h3] <;> omega
theorem addOf_yes {a b : List Int} {c : Int} (ha : Word a) (hb : Word b) (hl : a.length = b.length) (hc : Trit c) : addOf a b c = ((add3 c a b).1, (add3 c a b).2.2, true) := if_pos ⟨ha, hb, hl, hc⟩
def Good (n : Nat) (ls : List (List Int)) : Prop := ∀ x ∈ ls, Word x ∧ x.length = n
theorem same_good (k n : Nat) (hk : 2000001 ≤ k) : ∀ ls : List (List Int), Good n ls → same_g k n ls = some true := by
  intro ls
  induction ls with
  | nil => intro _; rfl
  | cons x xs ih =>
    intro h
    have hx := h x (List.mem_cons_self ..)
    have := hx.1.2.1
    rw [same_g, impl_IsWord_f k x hk (by omega), bsome, if_pos (by simp [sameB, hx.1, hx.2])]
    exact ih (fun y hy => h y (List.mem_cons_of_mem _ hy))
theorem sameLength_good (k n : Nat) (ls : List (List Int)) (hk : 2000001 ≤ k) (h : Good n ls) (h1 : 0 < ls.length) : impl_sameLength.f k ls = some true := by
  unfold impl_sameLength.f
  rw [if_pos h1]
  cases ls with
  | nil => simp at h1
  | cons x xs =>
    have hx := (h x (List.mem_cons_self ..)).2
    rw [List.getD_cons_zero, hx]
    exact same_good k n hk _ h
def cs3 : List Int → List Int → List Int → List Int × List Int
  | x :: xs, y :: ys, z :: zs => (low3 (x + y + z) :: (cs3 xs ys zs).1, rest3 (x + y + z) :: (cs3 xs ys zs).2)
  | _, _, _ => ([], [])
theorem cs3_val (x : List Int) : ∀ (y z : List Int), x.length = y.length → x.length = z.length → Trits x → Trits y → Trits z → val (cs3 x y z).1 + 3 * val (cs3 x y z).2 = val x + val y + val z ∧ Trits (cs3 x y z).1 ∧ Trits (cs3 x y z).2 ∧ (cs3 x y z).1.length = x.length ∧ (cs3 x y z).2.length = x.length := by
  induction x with
  | nil =>
    intro y z h1 h2 _ _ _
    cases y with
    | cons _ _ => simp at h1
    | nil =>
      cases z with
      | cons _ _ => simp at h2
      | nil => exact ⟨by simp [cs3, val], Trits.nil, Trits.nil, rfl, rfl⟩
  | cons a x ih =>
    intro y z h1 h2 ha hb hc
    cases y with
    | nil => simp at h1
    | cons b y =>
      cases z with
      | nil => simp at h2
      | cons c z =>
        have := ih y z (by simpa using h1) (by simpa using h2) (Trits.cons.1 ha).2 (Trits.cons.1 hb).2 (Trits.cons.1 hc).2
        have t1 := (Trits.cons.1 ha).1
        have t2 := (Trits.cons.1 hb).1
        have t3 := (Trits.cons.1 hc).1
        have e := low3_rest3 (a + b + c)
        refine ⟨?_, Trits.cons.2 ⟨low3_trit _, this.2.1⟩, Trits.cons.2 ⟨?_, this.2.2.1⟩, by simp [cs3, this.2.2.2.1], by simp [cs3, this.2.2.2.2]⟩
        · simp only [cs3, val]; omega
        · unfold Trit rest3 at *; omega
theorem impl_CarrySave_l0 (x y z : List Int) (hl : x.length ≤ 30) (h1 : x.length = y.length) (h2 : x.length = z.length) (tx : Trits x) (ty : Trits y) (tz : Trits z) : ∀ (d k i : Nat) (u v : List Int), i + d = x.length → d + 2000002 < k → u.length ≤ i → v.length = i + 1 →
    impl_CarrySave.l0 k x y z u v (x.length : Int) (i : Int) = some (u ++ (cs3 (x.drop i) (y.drop i) (z.drop i)).1, (v ++ (cs3 (x.drop i) (y.drop i) (z.drop i)).2).take x.length, true) := by
  intro d
  induction d with
  | zero =>
    intro k i u v h hk hu hv
    obtain ⟨k, rfl⟩ : ∃ m, k = m + 1 := ⟨k - 1, by omega⟩
    rw [impl_CarrySave.l0, if_neg (by omega), if_pos (by omega), if_pos (by omega), List.drop_eq_nil_of_le (by omega), List.drop_eq_nil_of_le (by omega), List.drop_eq_nil_of_le (by omega)]
    simp [cs3]
  | succ d ih =>
    intro k i u v h hk hu hv
    obtain ⟨k, rfl⟩ : ∃ m, k = m + 1 := ⟨k - 1, by omega⟩
    have h3 := tx _ (rd_mem x i (by omega))
    have h4 := ty _ (rd_mem y i (by omega))
    have h5 := tz _ (rd_mem z i (by omega))
    rw [impl_CarrySave.l0, if_pos (by omega), if_pos (by omega), if_pos (by omega), if_pos (by omega), if_pos (by omega), impl_FullAdd_f k _ _ _ (by omega) h3 h4 h5, bsome, if_pos (by omega), if_pos (by omega), w64 _ (by omega) (by omega)]
    rw [show ((i : Int) + 1) = ((i + 1 : Nat) : Int) from by omega]
    rw [ih k (i + 1) _ _ (by omega) (by omega) (by simp; omega) (by simp; omega), drop_rd x i (by omega), drop_rd y i (by omega), drop_rd z i (by omega)]
    simp [cs3]
theorem spec_l2Copy_f (l : List Int) (hl : l.length ≤ 2000000) : spec_l2Copy.f l = some l := by
  unfold spec_l2Copy.f
  rw [bsome, if_pos (by simp; omega)]; rfl
/-- The number of all elements of the inner rows; the rows as they stand when each element has its number. -/
def totI : List (List Int) → Int
  | [] => 0
  | r :: rs => (r.length : Int) + totI rs
def marksSS (a : Int) : List (List Int) → List (List Int)
  | [] => []
  | r :: rs => marks a r.length :: marksSS (a + r.length) rs
theorem totI_nonneg : ∀ l : List (List Int), 0 ≤ totI l
  | [] => by simp [totI]
  | r :: rs => by rw [totI]; have := totI_nonneg rs; omega
theorem rd_pre (pre : List (List Int)) (r : List Int) (l : List (List Int)) : rd_L1 (pre ++ r :: l) (pre.length : Int) = r := by
  simp [rd_L1]
theorem markIntSS_l0 : ∀ (l pre : List (List Int)) (k : Nat) (a : Int), l.length + 2000001 < k → pre.length + l.length ≤ 3000000 → (∀ r ∈ l, r.length ≤ 2000000) → 0 ≤ a → a + totI l ≤ 1000000000 →
    laws_markIntSS.l0 k (pre ++ l) a (pre.length : Int) = some (a + totI l, pre ++ marksSS a l) := by
  intro l
  induction l with
  | nil =>
    intro pre k a hk hp hr h0 h1
    obtain ⟨k, rfl⟩ : ∃ m, k = m + 1 := ⟨k - 1, by omega⟩
    simp only [laws_markIntSS.l0]
    rw [if_neg (by simp), totI, marksSS, Int.add_zero]
  | cons r l ih =>
    intro pre k a hk hp hr h0 h1
    obtain ⟨k, rfl⟩ : ∃ m, k = m + 1 := ⟨k - 1, by omega⟩
    simp only [laws_markIntSS.l0]
    have hn := totI_nonneg l
    rw [totI] at h1
    rw [List.length_cons] at hk hp
    have hg : (pre ++ r :: l).getD (pre.length : Int).toNat [] = r := by simp
    have hs : ∀ x : List Int, (pre ++ r :: l).set (pre.length : Int).toNat x = (pre ++ [x]) ++ l := by intro x; simp
    rw [if_pos (by simp only [List.length_append, List.length_cons]; omega), if_pos (by omega), hg, laws_markIntS_f k r a (by omega) (hr r List.mem_cons_self) h0 (by omega), bsome, hs, w64 _ (by omega) (by omega)]
    have := ih (pre ++ [marks a r.length]) k (a + r.length) (by omega) (by rw [List.length_append, List.length_singleton]; omega) (fun x hx => hr x (List.mem_cons_of_mem _ hx)) (by omega) (by omega)
    rw [List.length_append, List.length_singleton, show ((pre.length + 1 : Nat) : Int) = (pre.length : Int) + 1 from by omega] at this
    rw [this, totI, marksSS, Int.add_assoc]; simp
theorem markIntSS_f (k : Nat) (l : List (List Int)) (a : Int) (hk : 6000000 ≤ k) (hl : l.length ≤ 2000000) (hr : ∀ r ∈ l, r.length ≤ 2000000) (h0 : 0 ≤ a) (h1 : a + totI l ≤ 1000000000) : laws_markIntSS.f k l a = some (a + totI l, marksSS a l) := by
  unfold laws_markIntSS.f
  have := markIntSS_l0 l [] k a (by omega) (by simp; omega) hr h0 h1
  simpa using this
theorem eqIntSS_same (k : Nat) (l : List (List Int)) (hk : 6000000 ≤ k) (hl : l.length ≤ 2000000) (hr : ∀ r ∈ l, r.length ≤ 2000000) : laws_eqIntSS.f k l l = some true := by
  have key : ∀ (d k i : Nat), i + d = l.length → d + 2000001 < k → laws_eqIntSS.l0 k l l (i : Int) = some true := by
    intro d
    induction d with
    | zero =>
      intro k i h hk
      obtain ⟨k, rfl⟩ : ∃ m, k = m + 1 := ⟨k - 1, by omega⟩
      simp only [laws_eqIntSS.l0]
      rw [if_neg (by omega)]
    | succ d ih =>
      intro k i h hk
      obtain ⟨k, rfl⟩ : ∃ m, k = m + 1 := ⟨k - 1, by omega⟩
      simp only [laws_eqIntSS.l0]
      have hm : rd_L1 l (i : Int) ∈ l := by
        unfold rd_L1
        rw [Int.toNat_natCast, List.getD_eq_getElem?_getD, List.getElem?_eq_getElem (by omega)]
        exact List.getElem_mem _
      rw [if_pos (by omega), if_pos (by omega), if_pos (by omega), laws_eqIntS_f k _ _ (by omega) (hr _ hm), bsome, if_pos (decide_eq_true rfl), w64 _ (by omega) (by omega), show (i : Int) + 1 = ((i + 1 : Nat) : Int) from by omega]
      exact ih k (i + 1) (by omega) (by omega)
  unfold laws_eqIntSS.f
  rw [if_pos rfl]
  exact key l.length k 0 (by omega) (by omega)
theorem same_g_f (k n : Nat) (hk : 2000001 ≤ k) : ∀ ls : List (List Int), (∀ r ∈ ls, r.length ≤ 2000000) → (Good n ls ∧ same_g k n ls = some true) ∨ (¬ Good n ls ∧ same_g k n ls = some false) := by
  intro ls
  induction ls with
  | nil => intro _; exact .inl ⟨fun x hx => (by cases hx), rfl⟩
  | cons x xs ih =>
    intro hr
    have hx := hr x List.mem_cons_self
    rw [same_g, impl_IsWord_f k x hk hx, bsome]
    by_cases c : Word x ∧ x.length = n
    · rw [if_pos (by simp [sameB, c.1, c.2])]
      rcases ih (fun r h => hr r (List.mem_cons_of_mem _ h)) with ⟨g, e⟩ | ⟨g, e⟩
      · refine .inl ⟨fun y hy => ?_, e⟩
        rcases List.mem_cons.1 hy with rfl | hy
        · exact c
        · exact g y hy
      · exact .inr ⟨fun h => g (fun y hy => h y (List.mem_cons_of_mem _ hy)), e⟩
    · have hb : sameB (decide (Word x)) x.length n = false := by
        unfold sameB
        by_cases w : Word x
        · rw [decide_eq_true w, decide_eq_false (fun h => c ⟨w, h⟩)]; rfl
        · rw [decide_eq_false w]; rfl
      rw [hb, if_neg (by decide)]
      exact .inr ⟨fun h => c (h x List.mem_cons_self), rfl⟩
theorem spec_CarrySave_l0 (x y z : List Int) (hl : x.length ≤ 30) (h1 : x.length = y.length) (h2 : x.length = z.length) (tx : Trits x) (ty : Trits y) (tz : Trits z) : ∀ (d k i : Nat) (u v : List Int), i + d = x.length → d + 2000002 < k → u.length ≤ i → v.length = i + 1 →
    spec_CarrySave.l0 k x y z u v x (x.length : Int) (i : Int) = some (u ++ (cs3 (x.drop i) (y.drop i) (z.drop i)).1, (v ++ (cs3 (x.drop i) (y.drop i) (z.drop i)).2).take x.length, true) := by
  intro d
  induction d with
  | zero =>
    intro k i u v h hk hu hv
    obtain ⟨k, rfl⟩ : ∃ m, k = m + 1 := ⟨k - 1, by omega⟩
    rw [spec_CarrySave.l0, if_neg (by omega), if_pos (by omega), if_pos (by omega), List.drop_eq_nil_of_le (by omega), List.drop_eq_nil_of_le (by omega), List.drop_eq_nil_of_le (by omega)]
    simp [cs3]
  | succ d ih =>
    intro k i u v h hk hu hv
    obtain ⟨k, rfl⟩ : ∃ m, k = m + 1 := ⟨k - 1, by omega⟩
    have h3 := tx _ (rd_mem x i (by omega))
    have h4 := ty _ (rd_mem y i (by omega))
    have h5 := tz _ (rd_mem z i (by omega))
    rw [spec_CarrySave.l0, if_pos (by omega), if_pos (by omega), if_pos (by omega), if_pos (by omega), if_pos (by omega), spec_FullAdd_f k _ _ _ (by omega) h3 h4 h5, bsome, if_pos (by omega), if_pos (by omega), w64 _ (by omega) (by omega)]
    rw [show ((i : Int) + 1) = ((i + 1 : Nat) : Int) from by omega]
    rw [ih k (i + 1) _ _ (by omega) (by omega) (by simp; omega) (by simp; omega), drop_rd x i (by omega), drop_rd y i (by omega), drop_rd z i (by omega)]
    simp [cs3]
/-- A round's words: the sum without carries, and the carries. -/
def csS (x y z : List Int) : List Int := (cs3 x y z).1
def csC (x y z : List Int) : List Int := (0 :: (cs3 x y z).2).take x.length
theorem cs_both (k n : Nat) (x y z : List Int) (hk : 3000000 ≤ k) (hx : Word x ∧ x.length = n) (hy : Word y ∧ y.length = n) (hz : Word z ∧ z.length = n) : (impl_CarrySave.f k x y z = some (csS x y z, csC x y z, true) ∧ spec_CarrySave.f k x y z = some (csS x y z, csC x y z, true)) ∧ (Word (csS x y z) ∧ (csS x y z).length = n) ∧ (Word (csC x y z) ∧ (csC x y z).length = n) := by
  have g : Good n [x, y, z] := fun w hw => by
    simp only [List.mem_cons, List.not_mem_nil, or_false] at hw
    rcases hw with rfl | rfl | rfl
    · exact hx
    · exact hy
    · exact hz
  have l1 := hx.1.1
  have l2 := hx.1.2.1
  obtain ⟨cv, t1, t2, n1, n2⟩ := cs3_val x y z (by omega) (by omega) hx.1.2.2 hy.1.2.2 hz.1.2.2
  have e := impl_CarrySave_l0 x y z l2 (by omega) (by omega) hx.1.2.2 hy.1.2.2 hz.1.2.2 x.length k 0 [] [0] (by omega) (by omega) (by simp) (by simp)
  obtain ⟨k', hk'⟩ : ∃ m, k = m + 1 := ⟨k - 1, by omega⟩
  have e2 := spec_CarrySave_l0 x y z l2 (by omega) (by omega) hx.1.2.2 hy.1.2.2 hz.1.2.2 x.length k' 0 [] [0] (by omega) (by omega) (by simp) (by simp)
  rw [show ((0 : Nat) : Int) = 0 from rfl] at e e2
  simp only [List.drop_zero, List.nil_append, List.singleton_append] at e e2
  have t3 : Trits (0 :: (cs3 x y z).2) := Trits.cons.2 ⟨by unfold Trit; omega, t2⟩
  have ln : ((0 :: (cs3 x y z).2).take x.length).length = n := by rw [List.length_take, List.length_cons]; omega
  refine ⟨⟨?_, ?_⟩, ⟨⟨by unfold csS; omega, by unfold csS; omega, t1⟩, by unfold csS; omega⟩, ⟨⟨by unfold csC; omega, by unfold csC; omega, Trits.take t3 _⟩, ln⟩⟩
  · unfold impl_CarrySave.f
    rw [sameLength_good k n _ (by omega) g (by simp), bsome, if_pos rfl, e]; rfl
  · unfold spec_CarrySave.f
    rw [spec_l3Fit_f k x y (by omega) (by omega) (by omega), bsome, if_pos (by simp [hx.1, hy.1]; omega), spec_l3Fit_f k x z (by omega) (by omega) (by omega), bsome, decide_eq_true (show Word x ∧ Word z ∧ x.length = z.length from ⟨hx.1, hz.1, by omega⟩), hk']
    simp only [spec_CarrySave.j0]
    rw [if_neg (by decide), e2]; rfl
/-- One round: each three words become two. -/
def rnd : List (List Int) → List (List Int)
  | x :: y :: z :: rest => csS x y z :: csC x y z :: rnd rest
  | l => l
theorem rnd_good (n : Nat) : ∀ (d : Nat) (ls : List (List Int)), ls.length ≤ d → Good n ls → Good n (rnd ls) ∧ (rnd ls).length ≤ ls.length ∧ (3 ≤ ls.length → (rnd ls).length < ls.length) ∧ (1 ≤ ls.length → 1 ≤ (rnd ls).length) := by
  intro d
  induction d using Nat.strongRecOn with
  | ind d ih =>
    intro ls hd g
    match ls, hd, g with
    | [], _, _ => exact ⟨fun x hx => (by cases hx), by simp [rnd], by simp, by simp⟩
    | [x], _, g => exact ⟨g, by simp [rnd], by simp, by simp [rnd]⟩
    | [x, y], _, g => exact ⟨g, by simp [rnd], by simp, by simp [rnd]⟩
    | x :: y :: z :: rest, hd, g =>
      simp only [List.length_cons] at hd
      obtain ⟨g1, l1, l2, l3⟩ := ih (d - 3) (by omega) rest (by omega) (fun w hw => g w (by simp [hw]))
      obtain ⟨_, hs, hc⟩ := cs_both 3000000 n x y z (Nat.le_refl _) (g x (by simp)) (g y (by simp)) (g z (by simp))
      refine ⟨fun w hw => ?_, by simp only [rnd, List.length_cons]; omega, fun _ => by simp only [rnd, List.length_cons]; omega, fun _ => by simp only [rnd, List.length_cons]; omega⟩
      simp only [rnd, List.mem_cons] at hw
      rcases hw with rfl | rfl | hw
      · exact hs
      · exact hc
      · exact g1 w hw
theorem impl_rnd (n : Nat) (r : List Int × Int × Bool) (K : Nat) (hK : 3000000 ≤ K) : ∀ (d k : Nat) (ls acc : List (List Int)) (lv : Int), ls.length ≤ d → d + K < k → Good n ls → acc.length + ls.length ≤ 100 →
    (∀ k, K ≤ k → impl_TreeSum.l0 k (acc ++ rnd ls) (wrap64 (lv + 1)) = some r) → impl_TreeSum.l1 k ls lv acc = some r := by
  intro d
  induction d with
  | zero =>
    intro k ls acc lv h hk g hl hr
    obtain ⟨k, rfl⟩ : ∃ m, k = m + 1 := ⟨k - 1, by omega⟩
    obtain rfl : ls = [] := List.eq_nil_of_length_eq_zero (by omega)
    rw [impl_TreeSum.l1, if_neg (by simp), if_pos (by simp only [List.length_nil] at *; omega)]
    exact hr k (by omega)
  | succ d ih =>
    intro k ls acc lv h hk g hl hr
    obtain ⟨k, rfl⟩ : ∃ m, k = m + 1 := ⟨k - 1, by omega⟩
    by_cases c : 3 ≤ ls.length
    · obtain ⟨x, y, z, rest, rfl⟩ : ∃ x y z rest, ls = x :: y :: z :: rest := by
        match ls, c with
        | x :: y :: z :: rest, _ => exact ⟨x, y, z, rest, rfl⟩
      simp only [List.length_cons] at h hl
      obtain ⟨⟨e, _⟩, _, _⟩ := cs_both k n x y z (by omega) (g x (by simp)) (g y (by simp)) (g z (by simp))
      have r0 : rd_L1 (x :: y :: z :: rest) 0 = x := rfl
      have r1 : rd_L1 (x :: y :: z :: rest) 1 = y := rfl
      have r2 : rd_L1 (x :: y :: z :: rest) 2 = z := rfl
      rw [impl_TreeSum.l1, if_pos (by simp only [List.length_cons]; omega), if_pos (by simp only [List.length_cons]; omega), if_pos (by simp only [List.length_cons]; omega), if_pos (by simp only [List.length_cons]; omega), r0, r1, r2, e, bsome, bsome, if_pos (by simp only [List.length_cons, List.length_nil]; omega), if_pos (by simp only [List.length_cons]; omega)]
      refine ih k rest (acc ++ [csS x y z, csC x y z]) lv (by omega) (by omega) (fun w hw => g w (by simp [hw])) (by simp only [List.length_append, List.length_cons, List.length_nil]; omega) (fun k hk => ?_)
      have := hr k hk
      rw [rnd] at this
      simpa using this
    · have hn : rnd ls = ls := by
        match ls, c with
        | [], _ => rfl
        | [x], _ => rfl
        | [x, y], _ => rfl
        | x :: y :: z :: rest, c => exact absurd (by simp only [List.length_cons]; omega) c
      rw [impl_TreeSum.l1, if_neg (by omega), if_pos (by omega)]
      have := hr k (by omega)
      rwa [hn] at this
theorem rd_L1_drop (ls : List (List Int)) (i j : Nat) : rd_L1 (ls.drop i) (j : Int) = rd_L1 ls ((i + j : Nat) : Int) := by
  unfold rd_L1
  rw [Int.toNat_natCast, Int.toNat_natCast, List.getD_eq_getElem?_getD, List.getElem?_drop, List.getD_eq_getElem?_getD]
theorem spec_rnd_l1 (ls : List (List Int)) (hl : ls.length ≤ 100) : ∀ (d k i : Nat) (acc : List (List Int)), i + d = ls.length → d < k → acc.length ≤ 100 + i → spec_l3Round.l1 k ls acc (i : Int) = some (acc ++ ls.drop i) := by
  intro d
  induction d with
  | zero =>
    intro k i acc h hk ha
    obtain ⟨k, rfl⟩ : ∃ m, k = m + 1 := ⟨k - 1, by omega⟩
    rw [spec_l3Round.l1, if_neg (by omega), List.drop_eq_nil_of_le (by omega), List.append_nil]
  | succ d ih =>
    intro k i acc h hk ha
    obtain ⟨k, rfl⟩ : ∃ m, k = m + 1 := ⟨k - 1, by omega⟩
    have e : ls.drop i = rd_L1 ls (i : Int) :: ls.drop (i + 1) := by
      unfold rd_L1
      rw [Int.toNat_natCast, List.drop_eq_getElem_cons (by omega), List.getD_eq_getElem?_getD, List.getElem?_eq_getElem (by omega)]; rfl
    rw [spec_l3Round.l1, if_pos (by omega), if_pos (by omega), if_pos (by omega), w64 _ (by omega) (by omega), show (i : Int) + 1 = ((i + 1 : Nat) : Int) from by omega, ih k (i + 1) _ (by omega) (by omega) (by rw [List.length_append, List.length_singleton]; omega), e, List.append_assoc]; rfl
theorem spec_rnd_l0 (n : Nat) (ls : List (List Int)) (hl : ls.length ≤ 100) (g : Good n ls) : ∀ (d k i : Nat) (acc : List (List Int)), i + d = ls.length → d + 3000200 < k → acc.length ≤ i → spec_l3Round.l0 k ls acc (i : Int) = some (acc ++ rnd (ls.drop i)) := by
  intro d
  induction d using Nat.strongRecOn with
  | ind d ih =>
    intro k i acc h hk ha
    obtain ⟨k, rfl⟩ : ∃ m, k = m + 1 := ⟨k - 1, by omega⟩
    rw [spec_l3Round.l0, w64 ((i : Int) + 2) (by omega) (by omega)]
    by_cases c : 3 ≤ d
    · have hd : 3 ≤ (ls.drop i).length := by rw [List.length_drop]; omega
      obtain ⟨x, y, z, rest, e⟩ : ∃ x y z rest, ls.drop i = x :: y :: z :: rest := by
        generalize ls.drop i = l at hd
        match l, hd with
        | x :: y :: z :: rest, _ => exact ⟨x, y, z, rest, rfl⟩
      have r0 : rd_L1 ls (i : Int) = x := by have := rd_L1_drop ls i 0; rw [e] at this; exact this.symm
      have r1 : rd_L1 ls ((i : Int) + 1) = y := by have := rd_L1_drop ls i 1; rw [e] at this; exact this.symm
      have r2 : rd_L1 ls ((i : Int) + 2) = z := by have := rd_L1_drop ls i 2; rw [e] at this; exact this.symm
      have hm : ∀ w, w ∈ x :: y :: z :: rest → w ∈ ls := fun w hw => List.mem_of_mem_drop (by rw [e]; exact hw)
      obtain ⟨⟨_, e2⟩, _, _⟩ := cs_both k n x y z (by omega) (g x (hm x (by simp))) (g y (hm y (by simp))) (g z (hm z (by simp)))
      have er : ls.drop (i + 3) = rest := by rw [← List.drop_drop, e]; rfl
      rw [if_pos (by omega), if_pos (by omega), if_pos (by omega), w64 ((i : Int) + 1) (by omega) (by omega), if_pos (by omega), if_pos (by omega), if_pos (by omega), r0, r1, r2, e2, bsome, bsome, if_pos (by simp only [List.length_cons, List.length_nil]; omega), w64 ((i : Int) + 3) (by omega) (by omega), show (i : Int) + 3 = ((i + 3 : Nat) : Int) from by omega, ih (d - 3) (by omega) k (i + 3) _ (by omega) (by omega) (by simp only [List.length_append, List.length_cons, List.length_nil]; omega), er, e, rnd]
      simp
    · rw [if_neg (by omega), spec_rnd_l1 ls hl d k i acc (by omega) (by omega) (by omega)]
      have hd : ¬ 3 ≤ (ls.drop i).length := by rw [List.length_drop]; omega
      have hn : rnd (ls.drop i) = ls.drop i := by
        generalize ls.drop i = l at hd
        match l, hd with
        | [], _ => rfl
        | [x], _ => rfl
        | [x, y], _ => rfl
        | x :: y :: z :: rest, c => exact absurd (by simp only [List.length_cons]; omega) c
      rw [hn]
theorem tree_both (n : Nat) : ∀ (d : Nat) (ls : List (List Int)) (lv : Int), ls.length ≤ d → d ≤ 40 → 1 ≤ ls.length → Good n ls → 0 ≤ lv → lv + d ≤ 1000 → ∃ (w : List Int) (v : Int), w.length ≤ 30 ∧
    (∀ k, 3000300 + 200 * d ≤ k → impl_TreeSum.l0 k ls lv = some (w, v, true)) ∧ (∀ k, 3000300 + 200 * d ≤ k → spec_TreeSum.l1 k ls lv = some (w, v, true)) := by
  intro d
  induction d with
  | zero => intro ls lv h _ h1; omega
  | succ d ih =>
    intro ls lv h hd h1 g v0 v1
    by_cases c : 3 ≤ ls.length
    · obtain ⟨g2, l1, l2, l3⟩ := rnd_good n ls.length ls (Nat.le_refl _) g
      have l2 := l2 c
      obtain ⟨w, v, hw, e1, e2⟩ := ih (rnd ls) (lv + 1) (by omega) (by omega) (l3 (by omega)) g2 (by omega) (by omega)
      refine ⟨w, v, hw, ?_, ?_⟩
      · intro k hk
        obtain ⟨k, rfl⟩ : ∃ m, k = m + 1 := ⟨k - 1, by omega⟩
        rw [impl_TreeSum.l0, if_pos (by omega)]
        refine impl_rnd n _ (3000300 + 200 * d) (by omega) ls.length k ls [] lv (Nat.le_refl _) (by omega) g (by simp; omega) (fun k hk => ?_)
        rw [w64 (lv + 1) (by omega) (by omega), List.nil_append]
        exact e1 k hk
      · intro k hk
        obtain ⟨k, rfl⟩ : ∃ m, k = m + 1 := ⟨k - 1, by omega⟩
        have er : spec_l3Round.f k ls = some (rnd ls) := by
          unfold spec_l3Round.f
          have := spec_rnd_l0 n ls (by omega) g ls.length k 0 [] (by omega) (by omega) (by simp)
          simpa using this
        rw [spec_TreeSum.l1, if_pos (by omega), er, bsome, w64 (lv + 1) (by omega) (by omega)]
        exact e2 k (by omega)
    · match ls, c, h1, g with
      | [x], _, _, g =>
        have gx := g x (by simp)
        have r0 : rd_L1 [x] 0 = x := rfl
        have lx := gx.1.2.1
        refine ⟨x, lv, lx, ?_, ?_⟩
        · intro k hk
          obtain ⟨k, rfl⟩ : ∃ m, k = m + 1 := ⟨k - 1, by omega⟩
          rw [impl_TreeSum.l0, if_neg (by simp), if_pos (by simp), if_pos (by simp), r0]
          unfold slices_Clone_int_int.f
          rw [if_pos (by omega), bsome]
        · intro k hk
          obtain ⟨k, rfl⟩ : ∃ m, k = m + 1 := ⟨k - 1, by omega⟩
          rw [spec_TreeSum.l1, if_neg (by simp), if_pos (by simp), if_pos (by simp), r0, spec_l2Copy_f x (by omega), bsome]
      | [x, y], _, _, g =>
        have gx := g x (by simp)
        have gy := g y (by simp)
        have r0 : rd_L1 [x, y] 0 = x := rfl
        have r1 : rd_L1 [x, y] 1 = y := rfl
        have lx := gx.1.1
        have lx2 := gx.1.2.1
        have l2 := gx.2
        have l3 := gy.2
        have v4 := (add3_len x y 0 (by omega)).1
        refine ⟨(add3 0 x y).1, lv, by omega, ?_, ?_⟩
        · intro k hk
          obtain ⟨k, rfl⟩ : ∃ m, k = m + 1 := ⟨k - 1, by omega⟩
          rw [impl_TreeSum.l0, if_neg (by simp), if_neg (by simp), if_pos (by simp), if_pos (by simp), r0, r1, impl_AddWords_f k x y 0 (by omega) (by omega) (by omega), addOf_yes gx.1 gy.1 (by omega) (by unfold Trit; omega), bsome]
        · intro k hk
          obtain ⟨k, rfl⟩ : ∃ m, k = m + 1 := ⟨k - 1, by omega⟩
          rw [spec_TreeSum.l1, if_neg (by simp), if_neg (by simp), if_pos (by simp), if_pos (by simp), r0, r1, spec_l3Add_f k x y 0 (by omega) (by omega) (by omega) gx.1.2.2 gy.1.2.2 (by unfold Trit; omega), bsome]
      | x :: y :: z :: r, c, _, _ => exact absurd (by simp only [List.length_cons]; omega) c
theorem spec_Tree_l0 (ls : List (List Int)) (hl : ls.length ≤ 40) (h1 : 1 ≤ ls.length) (hr : ∀ r ∈ ls, r.length ≤ 2000000) (hw : Word (rd_L1 ls 0)) (r : List Int × Int × Bool) (K : Nat) (hK : 2000001 ≤ K) (e : ∀ k, K ≤ k → spec_TreeSum.l1 k ls 0 = some r) : ∀ (d k i : Nat), i + d = ls.length → d + K < k →
    spec_TreeSum.l0 k ls ls (ls.length : Int) (i : Int) = some (if ∀ x ∈ ls.drop i, Word x ∧ x.length = (rd_L1 ls 0).length then r else ([], 0, false)) := by
  have mem : ∀ i : Nat, i < ls.length → rd_L1 ls (i : Int) ∈ ls ∧ ls.drop i = rd_L1 ls (i : Int) :: ls.drop (i + 1) := by
    intro i hi
    unfold rd_L1
    rw [Int.toNat_natCast, List.drop_eq_getElem_cons hi, List.getD_eq_getElem?_getD, List.getElem?_eq_getElem hi]
    exact ⟨List.getElem_mem _, rfl⟩
  intro d
  induction d with
  | zero =>
    intro k i h hk
    obtain ⟨k, rfl⟩ : ∃ m, k = m + 1 := ⟨k - 1, by omega⟩
    rw [spec_TreeSum.l0, if_neg (by omega), e k (by omega), List.drop_eq_nil_of_le (by omega), if_pos (fun x hx => by cases hx)]
  | succ d ih =>
    intro k i h hk
    obtain ⟨k, rfl⟩ : ∃ m, k = m + 1 := ⟨k - 1, by omega⟩
    obtain ⟨hm, hd⟩ := mem i (by omega)
    have hm0 : rd_L1 ls 0 ∈ ls := (mem 0 (by omega)).1
    have h0 := hr _ hm0
    rw [spec_TreeSum.l0, if_pos (by omega), if_pos (by omega), if_pos (by omega), if_pos (by omega), spec_l3Fit_f k _ _ (by omega) h0 (hr _ hm), bsome, hd]
    by_cases c : Word (rd_L1 ls 0) ∧ Word (rd_L1 ls (i : Int)) ∧ (rd_L1 ls 0).length = (rd_L1 ls (i : Int)).length
    · rw [if_pos (decide_eq_true c), w64 _ (by omega) (by omega), show (i : Int) + 1 = ((i + 1 : Nat) : Int) from by omega, ih k (i + 1) (by omega) (by omega)]
      congr 1
      by_cases q : ∀ x ∈ ls.drop (i + 1), Word x ∧ x.length = (rd_L1 ls 0).length
      · rw [if_pos q, if_pos]
        intro x hx
        rcases List.mem_cons.1 hx with rfl | hx
        · exact ⟨c.2.1, c.2.2.symm⟩
        · exact q x hx
      · rw [if_neg q, if_neg (fun h => q (fun x hx => h x (List.mem_cons_of_mem _ hx)))]
    · rw [if_neg (by simpa using c), if_neg]
      intro h2
      have := h2 _ List.mem_cons_self
      exact c ⟨hw, this.1, this.2.symm⟩
theorem TreeSum_both (ls : List (List Int)) (hr : ∀ r ∈ ls, r.length ≤ 2000000) (hl : ls.length ≤ 2000000) : ∃ (w : List Int) (v : Int) (b : Bool), w.length ≤ 30 ∧ ∀ k, 4000000 ≤ k → impl_TreeSum.f k ls = some (w, v, b) ∧ spec_TreeSum.f k ls = some (w, v, b) := by
  by_cases c1 : ls.length ≤ 40
  · by_cases c2 : 1 ≤ ls.length
    · have r0 : ls.getD 0 [] = rd_L1 ls 0 := rfl
      by_cases g : Good (rd_L1 ls 0).length ls
      · obtain ⟨w, v, hw, e1, e2⟩ := tree_both _ ls.length ls 0 (Nat.le_refl _) c1 c2 g (by omega) (by omega)
        refine ⟨w, v, true, hw, fun k hk => ⟨?_, ?_⟩⟩
        · obtain ⟨k, rfl⟩ : ∃ m, k = m + 1 := ⟨k - 1, by omega⟩
          unfold impl_TreeSum.f
          rw [if_neg (by omega), sameLength_good _ _ ls (by omega) g (by omega), bsome, impl_TreeSum.j0, if_neg (by simp)]
          exact e1 k (by omega)
        · have hw0 : Word (rd_L1 ls 0) := by
            cases ls with
            | nil => simp at c2
            | cons x xs => exact (g x List.mem_cons_self).1
          unfold spec_TreeSum.f
          rw [spec_l1In_f, bsome, if_pos (decide_eq_true (by omega))]
          have := spec_Tree_l0 ls c1 c2 hr hw0 (w, v, true) (3000300 + 200 * ls.length) (by omega) e2 ls.length k 0 (by omega) (by omega)
          rw [List.drop_zero, if_pos (show ∀ x ∈ ls, Word x ∧ x.length = (rd_L1 ls 0).length from g)] at this
          exact this
      · refine ⟨[], 0, false, by simp, fun k hk => ⟨?_, ?_⟩⟩
        · obtain ⟨k, rfl⟩ : ∃ m, k = m + 1 := ⟨k - 1, by omega⟩
          unfold impl_TreeSum.f impl_sameLength.f
          rw [if_neg (by omega), if_pos (by omega), r0]
          rcases same_g_f (k + 1) (rd_L1 ls 0).length (by omega) ls hr with ⟨g2, _⟩ | ⟨_, e⟩
          · exact absurd g2 g
          · rw [e, bsome, impl_TreeSum.j0, if_pos (by rfl)]
        · unfold spec_TreeSum.f
          rw [spec_l1In_f, bsome, if_pos (decide_eq_true (by omega))]
          by_cases hw0 : Word (rd_L1 ls 0)
          · -- no round is reached: what follows is not looked at
            have key : ∀ (d k i : Nat), i + d = ls.length → d + 3000000 < k → ¬ (∀ x ∈ ls.drop i, Word x ∧ x.length = (rd_L1 ls 0).length) → spec_TreeSum.l0 k ls ls (ls.length : Int) (i : Int) = some ([], 0, false) := by
              intro d
              induction d with
              | zero =>
                intro k i h hk hn
                rw [List.drop_eq_nil_of_le (by omega)] at hn
                exact absurd (fun x hx => by cases hx) hn
              | succ d ih =>
                intro k i h hk hn
                obtain ⟨k, rfl⟩ : ∃ m, k = m + 1 := ⟨k - 1, by omega⟩
                have hd : rd_L1 ls (i : Int) ∈ ls ∧ ls.drop i = rd_L1 ls (i : Int) :: ls.drop (i + 1) := by
                  unfold rd_L1
                  rw [Int.toNat_natCast, List.drop_eq_getElem_cons (by omega), List.getD_eq_getElem?_getD, List.getElem?_eq_getElem (by omega)]
                  exact ⟨List.getElem_mem _, rfl⟩
                have hm0 : rd_L1 ls 0 ∈ ls := by
                  cases ls with
                  | nil => simp at c2
                  | cons x xs => exact List.mem_cons_self
                rw [spec_TreeSum.l0, if_pos (by omega), if_pos (by omega), if_pos (by omega), if_pos (by omega), spec_l3Fit_f k _ _ (by omega) (hr _ hm0) (hr _ hd.1), bsome]
                by_cases c : Word (rd_L1 ls 0) ∧ Word (rd_L1 ls (i : Int)) ∧ (rd_L1 ls 0).length = (rd_L1 ls (i : Int)).length
                · rw [if_pos (decide_eq_true c), w64 _ (by omega) (by omega), show (i : Int) + 1 = ((i + 1 : Nat) : Int) from by omega]
                  refine ih k (i + 1) (by omega) (by omega) (fun q => hn ?_)
                  rw [hd.2]
                  intro x hx
                  rcases List.mem_cons.1 hx with rfl | hx
                  · exact ⟨c.2.1, c.2.2.symm⟩
                  · exact q x hx
                · rw [if_neg (by simpa using c)]
            exact key ls.length k 0 (by omega) (by omega) (by rw [List.drop_zero]; exact g)
          · obtain ⟨k, rfl⟩ : ∃ m, k = m + 1 := ⟨k - 1, by omega⟩
            have hm0 : rd_L1 ls 0 ∈ ls := by
              cases ls with
              | nil => simp at c2
              | cons x xs => exact List.mem_cons_self
            rw [spec_TreeSum.l0, if_pos (by omega), if_pos (by omega), if_pos (by omega), if_pos (by omega), spec_l3Fit_f k _ _ (by omega) (hr _ hm0) (hr _ hm0), bsome, if_neg (by simp [hw0])]
    · obtain rfl : ls = [] := List.eq_nil_of_length_eq_zero (by omega)
      refine ⟨[], 0, false, by simp, fun k hk => ⟨?_, ?_⟩⟩
      · obtain ⟨k, rfl⟩ : ∃ m, k = m + 1 := ⟨k - 1, by omega⟩
        unfold impl_TreeSum.f impl_sameLength.f
        rw [if_neg (by simp), if_neg (by simp), bsome, impl_TreeSum.j0, if_pos (by rfl)]
      · unfold spec_TreeSum.f
        rw [spec_l1In_f, bsome, if_neg (by simp)]
  · refine ⟨[], 0, false, by simp, fun k hk => ⟨?_, ?_⟩⟩
    · obtain ⟨k, rfl⟩ : ∃ m, k = m + 1 := ⟨k - 1, by omega⟩
      unfold impl_TreeSum.f
      rw [if_pos (by omega), impl_TreeSum.j0, if_pos rfl]
    · unfold spec_TreeSum.f
      rw [spec_l1In_f, bsome, if_neg (by simp; omega)]
theorem szIntSS_f : ∀ (l pre : List (List Int)) (k : Nat) (a : Int), l.length < k → pre.length + l.length ≤ maxLen → (∀ r ∈ l, r.length ≤ maxLen) → 0 ≤ a → a ≤ 1000000000 →
    ∃ v, laws_szIntSS.l0 k (pre ++ l) a (pre.length : Int) = some v ∧ (¬ v < 0 → totI l ≤ a) := by
  have hM : maxLen = 9223372036854775807 := by decide
  intro l
  induction l with
  | nil =>
    intro pre k a hk hp hr h0 h1
    obtain ⟨k, rfl⟩ : ∃ m, k = m + 1 := ⟨k - 1, by omega⟩
    refine ⟨a, ?_, fun _ => by rw [totI]; exact h0⟩
    simp only [laws_szIntSS.l0]
    rw [if_neg (by simp)]
  | cons r l ih =>
    intro pre k a hk hp hr h0 h1
    obtain ⟨k, rfl⟩ : ∃ m, k = m + 1 := ⟨k - 1, by omega⟩
    have hrl := hr r List.mem_cons_self
    rw [List.length_cons] at hk hp
    simp only [laws_szIntSS.l0]
    unfold laws_szIntS.f
    rw [if_pos (by simp only [List.length_append, List.length_cons]; omega), if_pos (by omega), rd_pre, w64 (a - (r.length : Int)) (by omega) (by omega)]
    by_cases c : a - (r.length : Int) < 0
    · rw [if_pos c, bsome, if_pos (by omega)]
      exact ⟨-1, rfl, fun h => absurd (by omega) h⟩
    · obtain ⟨v, e, hv⟩ := ih (pre ++ [r]) k (a - r.length) (by omega) (by rw [List.length_append, List.length_singleton]; omega) (fun x hx => hr x (List.mem_cons_of_mem _ hx)) (by omega) (by omega)
      rw [List.length_append, List.length_singleton, show ((pre.length + 1 : Nat) : Int) = (pre.length : Int) + 1 from by omega, List.append_assoc, List.singleton_append] at e
      rw [if_neg c, bsome, if_neg (by omega), w64 ((pre.length : Int) + 1) (by omega) (by omega)]
      exact ⟨v, e, fun h => by rw [totI]; have := hv h; omega⟩
theorem toIntSS_l0 : ∀ (l pre : List (List Int)) (k : Nat), l.length + 2000001 < k → pre.length + l.length ≤ 3000000 → (∀ r ∈ l, r.length ≤ 2000000) →
    laws_toIntSS.l0 k (pre ++ l) (pre ++ List.replicate l.length []) (pre.length : Int) = some (pre ++ l) := by
  intro l
  induction l with
  | nil =>
    intro pre k hk hp hr
    obtain ⟨k, rfl⟩ : ∃ m, k = m + 1 := ⟨k - 1, by omega⟩
    simp only [laws_toIntSS.l0]
    rw [if_neg (by simp)]; simp
  | cons r l ih =>
    intro pre k hk hp hr
    obtain ⟨k, rfl⟩ : ∃ m, k = m + 1 := ⟨k - 1, by omega⟩
    rw [List.length_cons] at hk hp
    simp only [laws_toIntSS.l0]
    have hs : (pre ++ List.replicate (l.length + 1) []).set (pre.length : Int).toNat r = (pre ++ [r]) ++ List.replicate l.length [] := by rw [List.replicate_succ]; simp
    rw [if_pos (by simp only [List.length_append, List.length_cons]; omega), if_pos (by omega), rd_pre, laws_toIntS_f k r (by omega) (hr r List.mem_cons_self), bsome, List.length_cons, if_pos (by rw [List.length_append, List.length_replicate]; omega), hs, w64 _ (by omega) (by omega)]
    have := ih (pre ++ [r]) k (by omega) (by rw [List.length_append, List.length_singleton]; omega) (fun x hx => hr x (List.mem_cons_of_mem _ hx))
    rw [List.length_append, List.length_singleton, show ((pre.length + 1 : Nat) : Int) = (pre.length : Int) + 1 from by omega, List.append_assoc, List.append_assoc, List.singleton_append] at this
    rw [List.append_assoc]; exact this
theorem toIntSS_f (k : Nat) (l : List (List Int)) (hk : 6000000 ≤ k) (hl : l.length ≤ 2000000) (hr : ∀ r ∈ l, r.length ≤ 2000000) : laws_toIntSS.f k l = some l := by
  unfold laws_toIntSS.f
  rw [if_pos (by omega), if_pos (by omega), Int.toNat_natCast]
  have := toIntSS_l0 l [] k (by omega) (by simp; omega) hr
  simpa using this
theorem totI_mem : ∀ (l : List (List Int)) (r : List Int), r ∈ l → (r.length : Int) ≤ totI l
  | x :: xs, r, h => by
    have hn := totI_nonneg xs
    rw [totI]
    rcases List.mem_cons.1 h with rfl | h
    · omega
    · have := totI_mem xs r h; omega
end FnExactTreeSumParts
open FnExactTreeSumParts
attribute [local congr] bind_left

theorem FnExactTreeSum : laws_FnExactTreeSum.Pure := by
  intro l hl
  obtain ⟨K, hK⟩ : ∃ K, 10000000 + l.length ≤ K := ⟨_, Nat.le_refl _⟩
  refine ⟨K, ?_⟩
  have hM : maxLen = 9223372036854775807 := by decide
  have hln := hl.1
  by_cases c : 1048576 - (l.length : Int) < 0
  · refine ⟨-1, ?_, fun h => absurd (by omega) h⟩
    unfold laws_szIntSS.f
    rw [w64 _ (by omega) (by omega), if_pos c]
  · obtain ⟨z, ez, hz⟩ := szIntSS_f l [] K (1048576 - (l.length : Int)) (by omega) (by simp; omega) (fun r h => (hl.2 r h).1) (by omega) (by omega)
    refine ⟨z, ?_, fun h0 => ?_⟩
    · unfold laws_szIntSS.f
      rw [w64 _ (by omega) (by omega), if_neg c]
      simpa using ez
    have ht := hz h0
    have hr : ∀ r ∈ l, r.length ≤ 2000000 := fun r h => by have := totI_mem l r h; omega
    have hn := totI_nonneg l
    obtain ⟨w, v, b, hw, hb⟩ := TreeSum_both l hr (by omega)
    obtain ⟨e1, e2⟩ := hb K (by omega)
    refine ⟨marksSS 1 l, w, marks 1 w.length, v, 1 + totI l, 1 + w.length, b, toIntSS_f K l (by omega) (by omega) hr, e2, e1, ?_, eqIntSS_same K l (by omega) (by omega) hr, markIntSS_f K l 1 (by omega) (by omega) hr (by omega) (by omega), by omega, laws_markIntS_f K w 1 (by omega) (by omega) (by omega) (by omega), laws_heldIntS_marks K 1 w.length (by omega) (by omega) (by omega) (by omega), by omega⟩
    rw [laws_eqIntS_f K w w (by omega) (by omega), decide_eq_true rfl]

end Go.Proofs.Ytefjepcknmhblaa.Pure
