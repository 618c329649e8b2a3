/- For all words and carries the program's AddAhead gives what the reference gives, changes no argument, and shares no memory; no condition. -/
import Derived.Test.YtcgfcnpiekcofaaPx6
import Derived.Test.YtcgfcnpiekcofaaGlue
namespace Go.Proofs.Ytcgfcnpiekcofaa.Pure
open Go.RowKit Go.Proofs.Ytcgfcnpiekcofaa.Tern Go.Proofs.Ytcgfcnpiekcofaa.P Go.Proofs.YtcgfcnpiekcofaaW.PrintWords Go.Proofs.YtcgfcnpiekcofaaW.PrintLast
set_option linter.unusedVariables false

namespace FnExactAddAheadParts
theorem impl_IsTrit_f (a : Int) : impl_IsTrit.f a = some (decide (Trit a)) := by
  unfold impl_IsTrit.f Trit
  split
  · rename_i h
    simp [show -1 ≤ a from h]
  · rename_i h
    have : ¬ (-1 ≤ a) := h
    simp [this]
theorem spec_IsTrit_f (a : Int) : spec_IsTrit.f a = some (decide (Trit a)) := by
  unfold spec_IsTrit.f spec_l1In.f Trit
  split
  · rename_i h
    simp [show -1 ≤ a from h]
  · rename_i h
    have : ¬ (-1 ≤ a) := h
    simp [this]
theorem spec_l1In_f (x a b : Int) : spec_l1In.f x a b = some (decide (a ≤ x ∧ x ≤ b)) := by
  unfold spec_l1In.f
  split
  · rename_i h
    simp [show a ≤ x from h]
  · rename_i h
    have : ¬ (a ≤ x) := h
    simp [this]
theorem impl_trits_l0 (l : List Int) (hl : l.length ≤ 2000000) : ∀ (d k i : Nat), i + d = l.length → d < k →
    impl_trits.l0 k l (l.length : Int) (i : Int) = some (decide (Trits (l.drop i))) := by
  intro d
  induction d with
  | zero =>
    intro k i h hk
    obtain ⟨k, rfl⟩ : ∃ m, k = m + 1 := ⟨k - 1, by omega⟩
    simp only [impl_trits.l0]
    rw [if_neg (by omega), List.drop_eq_nil_of_le (by omega)]
    simp [Trits.nil]
  | succ d ih =>
    intro k i h hk
    obtain ⟨k, rfl⟩ : ∃ m, k = m + 1 := ⟨k - 1, by omega⟩
    simp only [impl_trits.l0]
    rw [if_pos (by omega), if_pos (by omega), if_pos (by omega), impl_IsTrit_f, drop_rd l i (by omega)]
    simp only [bsome, Trits.cons]
    by_cases ht : Trit (rd l (i : Int))
    · rw [if_pos (by simpa using ht), w64 _ (by omega) (by omega)]
      have := ih k (i + 1) (by omega) (by omega)
      rw [show ((i + 1 : Nat) : Int) = (i : Int) + 1 from by omega] at this
      rw [this]; simp [ht]
    · rw [if_neg (by simpa using ht)]; simp [ht]
theorem impl_trits_f (k : Nat) (l : List Int) (hk : 2000001 ≤ k) (hl : l.length ≤ 2000000) : impl_trits.f k l = some (decide (Trits l)) := by
  unfold impl_trits.f
  have := impl_trits_l0 l hl l.length k 0 (by omega) (by omega)
  simpa using this
theorem impl_IsWord_f (k : Nat) (l : List Int) (hk : 2000001 ≤ k) (hl : l.length ≤ 2000000) : impl_IsWord.f k l = some (decide (Word l)) := by
  unfold impl_IsWord.f Word
  rw [impl_trits_f k l hk hl]
  by_cases h1 : 1 ≤ l.length
  · rw [if_pos (by omega)]
    by_cases h2 : l.length ≤ 30
    · rw [if_pos (by omega)]; simp [h1, h2]
    · rw [if_neg (by omega)]; simp [h2]
  · rw [if_neg (by omega)]; simp [h1]
theorem spec_IsWord_l0 (l : List Int) (hl : l.length ≤ 2000000) : ∀ (d k i : Nat), i + d = l.length → d < k →
    spec_IsWord.l0 k l l (l.length : Int) (i : Int) = some (decide (1 ≤ l.length ∧ l.length ≤ 30 ∧ Trits (l.drop i))) := by
  intro d
  induction d with
  | zero =>
    intro k i h hk
    obtain ⟨k, rfl⟩ : ∃ m, k = m + 1 := ⟨k - 1, by omega⟩
    simp only [spec_IsWord.l0]
    rw [if_neg (by omega), List.drop_eq_nil_of_le (by omega), spec_l1In_f]
    have e : (1 ≤ (l.length : Int) ∧ (l.length : Int) ≤ 30) = (1 ≤ l.length ∧ l.length ≤ 30) := by apply propext; omega
    simp [Trits.nil, e]
  | succ d ih =>
    intro k i h hk
    obtain ⟨k, rfl⟩ : ∃ m, k = m + 1 := ⟨k - 1, by omega⟩
    simp only [spec_IsWord.l0]
    rw [if_pos (by omega), if_pos (by omega), if_pos (by omega), spec_IsTrit_f, drop_rd l i (by omega)]
    simp only [bsome, Trits.cons]
    by_cases ht : Trit (rd l (i : Int))
    · rw [if_pos (by simpa using ht), w64 _ (by omega) (by omega)]
      have := ih k (i + 1) (by omega) (by omega)
      rw [show ((i + 1 : Nat) : Int) = (i : Int) + 1 from by omega] at this
      rw [this]; simp [ht]
    · rw [if_neg (by simpa using ht)]; simp [ht]
theorem spec_IsWord_f (k : Nat) (l : List Int) (hk : 2000001 ≤ k) (hl : l.length ≤ 2000000) : spec_IsWord.f k l = some (decide (Word l)) := by
  unfold spec_IsWord.f Word
  exact spec_IsWord_l0 l hl l.length k 0 (by omega) (by omega)
theorem laws_toIntS_l0 (l : List Int) (hl : l.length ≤ 2000000) : ∀ (d k i : Nat), i + d = l.length → d < k →
    laws_toIntS.l0 k l (l.take i ++ List.replicate d 0) (i : Int) = some l := by
  intro d
  induction d with
  | zero =>
    intro k i h hk
    obtain ⟨k, rfl⟩ : ∃ m, k = m + 1 := ⟨k - 1, by omega⟩
    simp only [laws_toIntS.l0]
    rw [if_neg (by omega)]; simp [List.take_of_length_le (show l.length ≤ i by omega)]
  | succ d ih =>
    intro k i h hk
    obtain ⟨k, rfl⟩ : ∃ m, k = m + 1 := ⟨k - 1, by omega⟩
    have hlen : (l.take i).length = i := by rw [List.length_take]; omega
    simp only [laws_toIntS.l0]
    rw [if_pos (by omega), if_pos (by omega), if_pos (by rw [List.length_append, List.length_replicate, hlen]; omega), w64 _ (by omega) (by omega)]
    have e : (l.take i ++ List.replicate (d + 1) (0 : Int)).set (i : Int).toNat (rd l (i : Int)) = l.take (i + 1) ++ List.replicate d 0 := by
      have h1 := set_append_len (l.take i) 0 (rd l (i : Int)) (List.replicate d 0)
      rw [hlen] at h1
      rw [Int.toNat_natCast, List.replicate_succ, h1, take_rd l i (by omega), List.append_assoc]; rfl
    rw [e, show (i : Int) + 1 = ((i + 1 : Nat) : Int) from by omega]
    exact ih k (i + 1) (by omega) (by omega)
theorem laws_toIntS_f (k : Nat) (l : List Int) (hk : 2000001 ≤ k) (hl : l.length ≤ 2000000) : laws_toIntS.f k l = some l := by
  unfold laws_toIntS.f
  rw [if_pos (by omega), if_pos (by omega)]
  have := laws_toIntS_l0 l hl l.length k 0 (by omega) (by omega)
  simpa using this
theorem laws_eqIntS_l0 (a b : List Int) (hl : a.length ≤ 2000000) (hb : a.length = b.length) : ∀ (d k i : Nat), i + d = a.length → d < k →
    laws_eqIntS.l0 k a b (i : Int) = some (decide (a.drop i = b.drop i)) := by
  intro d
  induction d with
  | zero =>
    intro k i h hk
    obtain ⟨k, rfl⟩ : ∃ m, k = m + 1 := ⟨k - 1, by omega⟩
    simp only [laws_eqIntS.l0]
    rw [if_neg (by omega), List.drop_eq_nil_of_le (by omega), List.drop_eq_nil_of_le (by omega)]; simp
  | succ d ih =>
    intro k i h hk
    obtain ⟨k, rfl⟩ : ∃ m, k = m + 1 := ⟨k - 1, by omega⟩
    simp only [laws_eqIntS.l0]
    rw [if_pos (by omega), if_pos (by omega), if_pos (by omega), drop_rd a i (by omega), drop_rd b i (by omega), w64 _ (by omega) (by omega)]
    by_cases c : rd a (i : Int) = rd b (i : Int)
    · rw [if_pos c, show (i : Int) + 1 = ((i + 1 : Nat) : Int) from by omega, ih k (i + 1) (by omega) (by omega)]
      simp [c]
    · rw [if_neg c]; simp [c]
theorem laws_eqIntS_f (k : Nat) (a b : List Int) (hk : 2000001 ≤ k) (hl : a.length ≤ 2000000) : laws_eqIntS.f k a b = some (decide (a = b)) := by
  unfold laws_eqIntS.f
  by_cases h : a.length = b.length
  · rw [if_pos (by omega)]
    have := laws_eqIntS_l0 a b hl h a.length k 0 (by omega) (by omega)
    simpa using this
  · rw [if_neg (by omega)]
    have : a ≠ b := fun e => h (by rw [e])
    simp [this]
theorem laws_markIntS_l0 : ∀ (rest pre : List Int) (k : Nat) (m : Int), (pre ++ rest).length ≤ 2000000 → rest.length < k → 0 ≤ m → m ≤ 1000000000000 → m + rest.length ≤ 1000000000000 →
    laws_markIntS.l0 k (pre ++ rest) m (pre.length : Int) = some (m + rest.length, pre ++ marks m rest.length) := by
  intro rest
  induction rest with
  | nil =>
    intro pre k m hl hk h0 h1 h2
    obtain ⟨k, rfl⟩ : ∃ m, k = m + 1 := ⟨k - 1, by simp only [List.length_nil] at hk; omega⟩
    simp only [laws_markIntS.l0]
    rw [if_neg (by simp)]; simp [marks]
  | cons x rest ih =>
    intro pre k m hl hk h0 h1 h2
    simp only [List.length_cons, List.length_append] at *
    obtain ⟨k, rfl⟩ : ∃ m, k = m + 1 := ⟨k - 1, by omega⟩
    simp only [laws_markIntS.l0]
    rw [if_pos (by simp only [List.length_append, List.length_cons]; omega), if_pos (by omega), Int.toNat_natCast, set_append_len, w64 _ (by omega) (by omega), w64 _ (by omega) (by omega)]
    have := ih (pre ++ [m]) k (m + 1) (by simp; omega) (by omega) (by omega) (by omega) (by omega)
    simp only [List.append_assoc, List.singleton_append, List.length_append, List.length_singleton] at this
    rw [show (pre.length : Int) + 1 = ((pre.length + 1 : Nat) : Int) from by omega, this]
    simp [marks]; omega
theorem laws_markIntS_f (k : Nat) (l : List Int) (m : Int) (hk : 2000001 ≤ k) (hl : l.length ≤ 2000000) (h0 : 0 ≤ m) (h1 : m ≤ 10000000000) : laws_markIntS.f k l m = some (m + l.length, marks m l.length) := by
  unfold laws_markIntS.f
  have := laws_markIntS_l0 l [] k m (by simpa using hl) (by omega) h0 (by omega) (by omega)
  simpa using this
theorem laws_heldIntS_l0 (l : List Int) (hl : l.length ≤ 2000000) : ∀ (d k i : Nat) (m : Int), i + d = l.length → d < k → 0 ≤ m → m + d ≤ 1000000000000 →
    laws_heldIntS.l0 k l m (i : Int) = some (if l.drop i = marks m d then m + d else -1) := by
  intro d
  induction d with
  | zero =>
    intro k i m h hk h0 h1
    obtain ⟨k, rfl⟩ : ∃ m, k = m + 1 := ⟨k - 1, by omega⟩
    simp only [laws_heldIntS.l0]
    rw [if_neg (by omega), List.drop_eq_nil_of_le (by omega)]; simp [marks]
  | succ d ih =>
    intro k i m h hk h0 h1
    obtain ⟨k, rfl⟩ : ∃ m, k = m + 1 := ⟨k - 1, by omega⟩
    simp only [laws_heldIntS.l0]
    rw [if_pos (by omega), if_pos (by omega), drop_rd l i (by omega), w64 _ (by omega) (by omega), w64 _ (by omega) (by omega)]
    simp only [marks, List.cons.injEq]
    by_cases c : rd l (i : Int) = m
    · rw [if_pos c, show (i : Int) + 1 = ((i + 1 : Nat) : Int) from by omega, ih k (i + 1) (m + 1) (by omega) (by omega) (by omega) (by omega)]
      simp only [c, true_and]
      split
      · congr 1; omega
      · rfl
    · rw [if_neg c, if_neg (fun hh => c hh.1)]
theorem laws_heldIntS_f (k : Nat) (l : List Int) (m : Int) (hk : 2000001 ≤ k) (hl : l.length ≤ 2000000) (h0 : 0 ≤ m) (h1 : m ≤ 10000000000) : laws_heldIntS.f k l m = some (if l = marks m l.length then m + l.length else -1) := by
  unfold laws_heldIntS.f
  have := laws_heldIntS_l0 l hl l.length k 0 m (by omega) (by omega) h0 (by omega)
  simpa using this
theorem laws_heldIntS_marks (k : Nat) (m : Int) (n : Nat) (hk : 2000001 ≤ k) (hl : n ≤ 2000000) (h0 : 0 ≤ m) (h1 : m ≤ 10000000000) : laws_heldIntS.f k (marks m n) m = some (m + n) := by
  rw [laws_heldIntS_f k (marks m n) m hk (by rw [length_marks]; exact hl) h0 h1, length_marks, if_pos rfl]
def add3 (c : Int) : List Int → List Int → List Int × List Int × Int
  | x :: xs, y :: ys => (low3 (x + y + c) :: (add3 (rest3 (x + y + c)) xs ys).1, c :: (add3 (rest3 (x + y + c)) xs ys).2.1, (add3 (rest3 (x + y + c)) xs ys).2.2)
  | _, _ => ([], [], c)
theorem add3_len (a : List Int) : ∀ (b : List Int) (c : Int), a.length = b.length → (add3 c a b).1.length = a.length ∧ (add3 c a b).2.1.length = a.length := by
  induction a with
  | nil =>
    intro b c h
    cases b with
    | nil => exact ⟨rfl, rfl⟩
    | cons y ys => simp at h
  | cons x xs ih =>
    intro b c h
    cases b with
    | nil => simp at h
    | cons y ys =>
      have := ih ys (rest3 (x + y + c)) (by simpa using h)
      simp only [add3, List.length_cons, this.1, this.2, and_self]
theorem impl_carried_f (n : Int) (h0 : -4 ≤ n) (h1 : n ≤ 4) : impl_carried.f n = some (low3 n, rest3 n) := by
  unfold impl_carried.f low3 rest3
  by_cases h : n > 1
  · rw [if_pos h, w64 _ (by omega) (by omega)]
    refine congrArg some (Prod.ext ?_ ?_) <;> simp only <;> omega
  · rw [if_neg h]
    by_cases h' : n < -1
    · rw [if_pos h', w64 _ (by omega) (by omega)]
      refine congrArg some (Prod.ext ?_ ?_) <;> simp only <;> omega
    · rw [if_neg h']
      refine congrArg some (Prod.ext ?_ ?_) <;> simp only <;> omega
theorem impl_FullAdd_f (k : Nat) (a b c : Int) (hk : 2000001 ≤ k) (ha : Trit a) (hb : Trit b) (hc : Trit c) : impl_FullAdd.f k a b c = some (low3 (a + b + c), rest3 (a + b + c)) := by
  unfold impl_FullAdd.f
  have ht : Trits [a, b, c] := Trits.cons.2 ⟨ha, Trits.cons.2 ⟨hb, Trits.cons.2 ⟨hc, Trits.nil⟩⟩⟩
  unfold Trit at ha hb hc
  rw [impl_trits_f k [a, b, c] hk (by simp), bsome, if_pos (by simpa using ht), w64 (a + b) (by omega) (by omega), w64 _ (by omega) (by omega), impl_carried_f _ (by omega) (by omega), bsome]
theorem impl_added_l0 (a b : List Int) (hl : a.length ≤ 30) (hb : a.length = b.length) (ta : Trits a) (tb : Trits b) : ∀ (d k i : Nat) (c : Int) (u v : List Int), i + d = a.length → d + 2000002 < k → u.length ≤ i → v.length ≤ i → Trit c →
    impl_added.l0 k a b c u v (a.length : Int) (i : Int) = some (u ++ (add3 c (a.drop i) (b.drop i)).1, v ++ (add3 c (a.drop i) (b.drop i)).2.1, (add3 c (a.drop i) (b.drop i)).2.2) := by
  intro d
  induction d with
  | zero =>
    intro k i c u v h hk hu hv hc
    obtain ⟨k, rfl⟩ : ∃ m, k = m + 1 := ⟨k - 1, by omega⟩
    rw [impl_added.l0, if_neg (by omega), List.drop_eq_nil_of_le (by omega), List.drop_eq_nil_of_le (by omega)]
    simp [add3]
  | succ d ih =>
    intro k i c u v h hk hu hv hc
    obtain ⟨k, rfl⟩ : ∃ m, k = m + 1 := ⟨k - 1, by omega⟩
    have hx := ta _ (rd_mem a i (by omega))
    have hy := tb _ (rd_mem b i (by omega))
    rw [impl_added.l0, if_pos (by omega), if_pos (by omega), if_pos (by omega), if_pos (by omega), impl_FullAdd_f k _ _ _ (by omega) hx hy hc, bsome, if_pos (by omega), if_pos (by omega), w64 _ (by omega) (by omega)]
    rw [show ((i : Int) + 1) = ((i + 1 : Nat) : Int) from by omega]
    rw [ih k (i + 1) _ _ _ (by omega) (by omega) (by simp; omega) (by simp; omega) (by unfold Trit rest3 at *; omega), drop_rd a i (by omega), drop_rd b i (by omega)]
    simp [add3]
theorem impl_added_f (k : Nat) (a b : List Int) (c : Int) (hk : 3000000 ≤ k) (hl : a.length ≤ 30) (hb : a.length = b.length) (ta : Trits a) (tb : Trits b) (hc : Trit c) : impl_added.f k a b c = some (add3 c a b) := by
  unfold impl_added.f
  have := impl_added_l0 a b hl hb ta tb a.length k 0 c [] [] (by omega) (by omega) (by simp) (by simp) hc
  simpa using this
theorem impl_sameLength_f2 (k : Nat) (a b : List Int) (hk : 2000001 ≤ k) (ha : a.length ≤ 2000000) (hb : b.length ≤ 2000000) : impl_sameLength.f k [a, b] = some (decide (Word a ∧ Word b ∧ a.length = b.length)) := by
  unfold impl_sameLength.f
  rw [if_pos (by simp)]
  simp only [same_g, List.getD_cons_zero]
  rw [impl_IsWord_f k a hk ha, impl_IsWord_f k b hk hb]
  simp only [bsome, sameB]
  by_cases h1 : Word a <;> by_cases h2 : Word b <;> by_cases h3 : a.length = b.length <;> simp [h1, h2, h3] <;> omega
def addOf (a b : List Int) (c : Int) : List Int × Int × Bool := if Word a ∧ Word b ∧ a.length = b.length ∧ Trit c then ((add3 c a b).1, (add3 c a b).2.2, true) else ([], 0, false)
theorem addOf_len (a b : List Int) (c : Int) : (addOf a b c).1.length ≤ 30 := by
  unfold addOf
  by_cases h : Word a ∧ Word b ∧ a.length = b.length ∧ Trit c
  · rw [if_pos h]; have := (add3_len a b c h.2.2.1).1; have := h.1.2.1; simp only; omega
  · rw [if_neg h]; simp
theorem impl_AddWords_f (k : Nat) (a b : List Int) (c : Int) (hk : 3000000 ≤ k) (ha : a.length ≤ 2000000) (hb : b.length ≤ 2000000) : impl_AddWords.f k a b c = some (addOf a b c) := by
  unfold impl_AddWords.f addOf
  rw [impl_IsTrit_f, bsome]
  by_cases h1 : Trit c
  · rw [if_pos (by simpa using h1), impl_sameLength_f2 k a b (by omega) ha hb, bsome]
    by_cases h2 : Word a ∧ Word b ∧ a.length = b.length
    · rw [if_pos (by simpa using h2), impl_added_f k a b c hk h2.1.2.1 h2.2.2 h2.1.2.2 h2.2.1.2.2 h1, bsome, if_pos ⟨h2.1, h2.2.1, h2.2.2, h1⟩]
    · rw [if_neg (by simpa using h2), if_neg (fun h => h2 ⟨h.1, h.2.1, h.2.2.1⟩)]
  · rw [if_neg (by simpa using h1), if_neg (fun h => h1 h.2.2.2)]
theorem impl_AddAhead_f (k : Nat) (a b : List Int) (c : Int) (hk : 3000000 ≤ k) (ha : a.length ≤ 2000000) (hb : b.length ≤ 2000000) : impl_AddAhead.f k a b c = some (addOf a b c) := by
  unfold impl_AddAhead.f
  rw [impl_AddWords_f k a b c hk ha hb, bsome]
theorem spec_l1Parts_f (k : Nat) (n : Int) (hk : 5 ≤ k) (h0 : -4 ≤ n) (h1 : n ≤ 4) : spec_l1Parts.f k n = some (low3 n, rest3 n) := by
  obtain ⟨k, rfl⟩ : ∃ m, k = m + 4 := ⟨k - 4, by omega⟩
  have : n = -4 ∨ n = -3 ∨ n = -2 ∨ n = -1 ∨ n = 0 ∨ n = 1 ∨ n = 2 ∨ n = 3 ∨ n = 4 := by omega
  rcases this with rfl | rfl | rfl | rfl | rfl | rfl | rfl | rfl | rfl <;> simp [spec_l1Parts.f, spec_l1Parts.l0, spec_l1Parts.l1, low3, rest3, wrap64]
theorem spec_FullAdd_f (k : Nat) (a b c : Int) (hk : 2000001 ≤ k) (ha : Trit a) (hb : Trit b) (hc : Trit c) : spec_FullAdd.f k a b c = some (low3 (a + b + c), rest3 (a + b + c)) := by
  unfold spec_FullAdd.f spec_l1Two.f
  rw [spec_IsTrit_f, spec_IsTrit_f, spec_IsTrit_f, bsome, if_pos (by simpa using ha), bsome, bsome, if_pos (by simpa using hb), bsome, if_pos (by simpa using hc)]
  unfold Trit at ha hb hc
  rw [w64 (a + b) (by omega) (by omega), w64 _ (by omega) (by omega), spec_l1Parts_f _ _ (by omega) (by omega) (by omega), bsome]
theorem spec_l3Add_l0 (a b : List Int) (hl : a.length ≤ 30) (hb : a.length = b.length) (ta : Trits a) (tb : Trits b) : ∀ (d k i : Nat) (c : Int) (u v : List Int), i + d = a.length → d + 2000002 < k → u.length ≤ i → v.length ≤ i → Trit c →
    spec_l3Add.l0 k b c u v a (a.length : Int) (i : Int) = some (u ++ (add3 c (a.drop i) (b.drop i)).1, v ++ (add3 c (a.drop i) (b.drop i)).2.1, (add3 c (a.drop i) (b.drop i)).2.2) := by
  intro d
  induction d with
  | zero =>
    intro k i c u v h hk hu hv hc
    obtain ⟨k, rfl⟩ : ∃ m, k = m + 1 := ⟨k - 1, by omega⟩
    rw [spec_l3Add.l0, if_neg (by omega), List.drop_eq_nil_of_le (by omega), List.drop_eq_nil_of_le (by omega)]
    simp [add3]
  | succ d ih =>
    intro k i c u v h hk hu hv hc
    obtain ⟨k, rfl⟩ : ∃ m, k = m + 1 := ⟨k - 1, by omega⟩
    have hx := ta _ (rd_mem a i (by omega))
    have hy := tb _ (rd_mem b i (by omega))
    rw [spec_l3Add.l0, if_pos (by omega), if_pos (by omega), if_pos (by omega), if_pos (by omega), if_pos (by omega), spec_FullAdd_f k _ _ _ (by omega) hx hy hc, bsome, if_pos (by omega), w64 _ (by omega) (by omega)]
    rw [show ((i : Int) + 1) = ((i + 1 : Nat) : Int) from by omega]
    rw [ih k (i + 1) _ _ _ (by omega) (by omega) (by simp; omega) (by simp; omega) (by unfold Trit rest3 at *; omega), drop_rd a i (by omega), drop_rd b i (by omega)]
    simp [add3]
theorem spec_l3Add_f (k : Nat) (a b : List Int) (c : Int) (hk : 3000000 ≤ k) (hl : a.length ≤ 30) (hb : a.length = b.length) (ta : Trits a) (tb : Trits b) (hc : Trit c) : spec_l3Add.f k a b c = some (add3 c a b) := by
  unfold spec_l3Add.f
  have := spec_l3Add_l0 a b hl hb ta tb a.length k 0 c [] [] (by omega) (by omega) (by simp) (by simp) hc
  simpa using this
theorem spec_l3Fit_f (k : Nat) (a b : List Int) (hk : 2000001 ≤ k) (ha : a.length ≤ 2000000) (hb : b.length ≤ 2000000) : spec_l3Fit.f k a b = some (decide (Word a ∧ Word b ∧ a.length = b.length)) := by
  unfold spec_l3Fit.f
  rw [spec_IsWord_f k a hk ha, spec_IsWord_f k b hk hb]
  simp only [bsome]
  by_cases h1 : Word a <;> by_cases h2 : Word b <;> by_cases h3 : a.length = b.length <;> simp [h1, h2, h3] <;> omega
theorem spec_AddWords_f (k : Nat) (a b : List Int) (c : Int) (hk : 3000000 ≤ k) (ha : a.length ≤ 2000000) (hb : b.length ≤ 2000000) : spec_AddWords.f k a b c = some (addOf a b c) := by
  unfold spec_AddWords.f addOf
  rw [spec_l3Fit_f k a b (by omega) ha hb, bsome]
  by_cases h2 : Word a ∧ Word b ∧ a.length = b.length
  · rw [if_pos (by simpa using h2), spec_IsTrit_f, bsome]
    by_cases h1 : Trit c
    · rw [if_pos (by simpa using h1), spec_l3Add_f k a b c hk h2.1.2.1 h2.2.2 h2.1.2.2 h2.2.1.2.2 h1, bsome, if_pos ⟨h2.1, h2.2.1, h2.2.2, h1⟩]
    · rw [if_neg (by simpa using h1), if_neg (fun h => h1 h.2.2.2)]
  · rw [if_neg (by simpa using h2), if_neg (fun h => h2 ⟨h.1, h.2.1, h.2.2.1⟩)]
theorem spec_AddAhead_f (k : Nat) (a b : List Int) (c : Int) (hk : 3000000 ≤ k) (ha : a.length ≤ 2000000) (hb : b.length ≤ 2000000) : spec_AddAhead.f k a b c = some (addOf a b c) := by
  unfold spec_AddAhead.f
  rw [spec_AddWords_f k a b c hk ha hb, bsome]
end FnExactAddAheadParts
open FnExactAddAheadParts
attribute [local congr] bind_left

theorem FnExactAddAhead : laws_FnExactAddAhead.Pure := by
  intro l0 l1 c _ _ _ _ _ _ _
  obtain ⟨K, hK⟩ : ∃ K, 100000000 ≤ K := ⟨_, Nat.le_refl _⟩
  refine ⟨K + 4, ?_⟩
  unfold laws_FnExactAddAhead.f
  by_cases h0 : (l0.length : Int) > 1048576
  · rw [if_pos h0]
  by_cases h1 : (l1.length : Int) > 1048576
  · rw [if_neg h0, if_pos h1]
  have f := fun k (hk : 3000000 ≤ k) => impl_AddAhead_f k l0 l1 c hk (by omega) (by omega)
  have g := fun k (hk : 3000000 ≤ k) => spec_AddAhead_f k l0 l1 c hk (by omega) (by omega)
  have hm := addOf_len l0 l1 c
  generalize addOf l0 l1 c = r at *
  simp (disch := omega) only [↓if_pos, ↓if_neg, ↓reduceIte, bsome, decide_true, bne_self_eq_false, Bool.false_eq_true, laws_toIntS_f, f, g, laws_eqIntS_f, laws_markIntS_f, laws_heldIntS_marks, laws_FnExactAddAhead.j0, laws_FnExactAddAhead.j1, laws_FnExactAddAhead.j2]

end Go.Proofs.Ytcgfcnpiekcofaa.Pure
