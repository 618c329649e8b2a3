/- For all pairs of words the program's PartialsOf gives what the reference gives, changes no argument, and shares no memory; no condition. -/
import Derived.Test.YtefjepcknmhblaaZSaPZ0
import Derived.Test.YtefjepcknmhblaaZSaGlue
namespace Go.Proofs.Ytefjepcknmhblaa.Pure
open Go.RowKit Go.Proofs.Ytefjepcknmhblaa.Tern Go.Proofs.Ytefjepcknmhblaa.P Go.Proofs.YtefjepcknmhblaaW.PrintWords Go.Proofs.YtefjepcknmhblaaW.PrintLast
set_option linter.unusedVariables false
set_option linter.unusedSimpArgs false

namespace FnExactPartialsOfParts
theorem impl_IsTrit_f (a : Int) : impl_IsTrit.f a = some (decide (Trit a)) := by
  unfold impl_IsTrit.f Trit
  split
  · rename_i h
    simp [show -1 ≤ a from h]
  · rename_i h
    have : ¬ (-1 ≤ a) := h
    simp [this]
theorem spec_IsTrit_f (a : Int) : spec_IsTrit.f a = some (decide (Trit a)) := by
  unfold spec_IsTrit.f spec_l1In.f Trit
  split
  · rename_i h
    simp [show -1 ≤ a from h]
  · rename_i h
    have : ¬ (-1 ≤ a) := h
    simp [this]
theorem spec_l1In_f (x a b : Int) : spec_l1In.f x a b = some (decide (a ≤ x ∧ x ≤ b)) := by
  unfold spec_l1In.f
  split
  · rename_i h
    simp [show a ≤ x from h]
  · rename_i h
    have : ¬ (a ≤ x) := h
    simp [this]
theorem impl_trits_l0 (l : List Int) (hl : l.length ≤ 2000000) : ∀ (d k i : Nat), i + d = l.length → d < k →
    impl_trits.l0 k l (l.length : Int) (i : Int) = some (decide (Trits (l.drop i))) := by
  intro d
  induction d with
  | zero =>
    intro k i h hk
    obtain ⟨k, rfl⟩ : ∃ m, k = m + 1 := ⟨k - 1, by omega⟩
    simp only [impl_trits.l0]
    rw [if_neg (by omega), List.drop_eq_nil_of_le (by omega)]
    simp [Trits.nil]
  | succ d ih =>
    intro k i h hk
    obtain ⟨k, rfl⟩ : ∃ m, k = m + 1 := ⟨k - 1, by omega⟩
    simp only [impl_trits.l0]
    rw [if_pos (by omega), if_pos (by omega), if_pos (by omega), impl_IsTrit_f, drop_rd l i (by omega)]
    simp only [bsome, Trits.cons]
    by_cases ht : Trit (rd l (i : Int))
    · rw [if_pos (by simpa using ht), w64 _ (by omega) (by omega)]
      have := ih k (i + 1) (by omega) (by omega)
      rw [show ((i + 1 : Nat) : Int) = (i : Int) + 1 from by omega] at this
      rw [this]; simp [ht]
    · rw [if_neg (by simpa using ht)]; simp [ht]
theorem impl_trits_f (k : Nat) (l : List Int) (hk : 2000001 ≤ k) (hl : l.length ≤ 2000000) : impl_trits.f k l = some (decide (Trits l)) := by
  unfold impl_trits.f
  have := impl_trits_l0 l hl l.length k 0 (by omega) (by omega)
  simpa using this
theorem impl_IsWord_f (k : Nat) (l : List Int) (hk : 2000001 ≤ k) (hl : l.length ≤ 2000000) : impl_IsWord.f k l = some (decide (Word l)) := by
  unfold impl_IsWord.f Word
  rw [impl_trits_f k l hk hl]
  by_cases h1 : 1 ≤ l.length
  · rw [if_pos (by omega)]
    by_cases h2 : l.length ≤ 30
    · rw [if_pos (by omega)]; simp [h1, h2]
    · rw [if_neg (by omega)]; simp [h2]
  · rw [if_neg (by omega)]; simp [h1]
theorem spec_IsWord_l0 (l : List Int) (hl : l.length ≤ 2000000) : ∀ (d k i : Nat), i + d = l.length → d < k →
    spec_IsWord.l0 k l l (l.length : Int) (i : Int) = some (decide (1 ≤ l.length ∧ l.length ≤ 30 ∧ Trits (l.drop i))) := by
  intro d
  induction d with
  | zero =>
    intro k i h hk
    obtain ⟨k, rfl⟩ : ∃ m, k = m + 1 := ⟨k - 1, by omega⟩
    simp only [spec_IsWord.l0]
    rw [if_neg (by omega), List.drop_eq_nil_of_le (by omega), spec_l1In_f]
    have e : (1 ≤ (l.length : Int) ∧ (l.length : Int) ≤ 30) = (1 ≤ l.length ∧ l.length ≤ 30) := by apply propext; omega
    simp [Trits.nil, e]
  | succ d ih =>
    intro k i h hk
    obtain ⟨k, rfl⟩ : ∃ m, k = m + 1 := ⟨k - 1, by omega⟩
    simp only [spec_IsWord.l0]
    rw [if_pos (by omega), if_pos (by omega), if_pos (by omega), spec_IsTrit_f, drop_rd l i (by omega)]
    simp only [bsome, Trits.cons]
    by_cases ht : Trit (rd l (i : Int))
    · rw [if_pos (by simpa using ht), w64 _ (by omega) (by omega)]
      have := ih k (i + 1) (by omega) (by omega)
      rw [show ((i + 1 : Nat) : Int) = (i : Int) + 1 from by omega] at this
      rw [this]; simp [ht]
    · rw [if_neg (by simpa using ht)]; simp [ht]
theorem spec_IsWord_f (k : Nat) (l : List Int) (hk : 2000001 ≤ k) (hl : l.length ≤ 2000000) : spec_IsWord.f k l = some (decide (Word l)) := by
  unfold spec_IsWord.f Word
  exact spec_IsWord_l0 l hl l.length k 0 (by omega) (by omega)
theorem laws_toIntS_l0 (l : List Int) (hl : l.length ≤ 2000000) : ∀ (d k i : Nat), i + d = l.length → d < k →
    laws_toIntS.l0 k l (l.take i ++ List.replicate d 0) (i : Int) = some l := by
  intro d
  induction d with
  | zero =>
    intro k i h hk
    obtain ⟨k, rfl⟩ : ∃ m, k = m + 1 := ⟨k - 1, by omega⟩
    simp only [laws_toIntS.l0]
    rw [if_neg (by omega)]; simp [List.take_of_length_le (show l.length ≤ i by omega)]
  | succ d ih =>
    intro k i h hk
    obtain ⟨k, rfl⟩ : ∃ m, k = m + 1 := ⟨k - 1, by omega⟩
    have hlen : (l.take i).length = i := by rw [List.length_take]; omega
    simp only [laws_toIntS.l0]
    rw [if_pos (by omega), if_pos (by omega), if_pos (by rw [List.length_append, List.length_replicate, hlen]; omega), w64 _ (by omega) (by omega)]
    have e : (l.take i ++ List.replicate (d + 1) (0 : Int)).set (i : Int).toNat (rd l (i : Int)) = l.take (i + 1) ++ List.replicate d 0 := by
      have h1 := set_append_len (l.take i) 0 (rd l (i : Int)) (List.replicate d 0)
      rw [hlen] at h1
      rw [Int.toNat_natCast, List.replicate_succ, h1, take_rd l i (by omega), List.append_assoc]; rfl
    rw [e, show (i : Int) + 1 = ((i + 1 : Nat) : Int) from by omega]
    exact ih k (i + 1) (by omega) (by omega)
theorem laws_toIntS_f (k : Nat) (l : List Int) (hk : 2000001 ≤ k) (hl : l.length ≤ 2000000) : laws_toIntS.f k l = some l := by
  unfold laws_toIntS.f
  rw [if_pos (by omega), if_pos (by omega)]
  have := laws_toIntS_l0 l hl l.length k 0 (by omega) (by omega)
  simpa using this
theorem laws_eqIntS_l0 (a b : List Int) (hl : a.length ≤ 2000000) (hb : a.length = b.length) : ∀ (d k i : Nat), i + d = a.length → d < k →
    laws_eqIntS.l0 k a b (i : Int) = some (decide (a.drop i = b.drop i)) := by
  intro d
  induction d with
  | zero =>
    intro k i h hk
    obtain ⟨k, rfl⟩ : ∃ m, k = m + 1 := ⟨k - 1, by omega⟩
    simp only [laws_eqIntS.l0]
    rw [if_neg (by omega), List.drop_eq_nil_of_le (by omega), List.drop_eq_nil_of_le (by omega)]; simp
  | succ d ih =>
    intro k i h hk
    obtain ⟨k, rfl⟩ : ∃ m, k = m + 1 := ⟨k - 1, by omega⟩
    simp only [laws_eqIntS.l0]
    rw [if_pos (by omega), if_pos (by omega), if_pos (by omega), drop_rd a i (by omega), drop_rd b i (by omega), w64 _ (by omega) (by omega)]
    by_cases c : rd a (i : Int) = rd b (i : Int)
    · rw [if_pos c, show (i : Int) + 1 = ((i + 1 : Nat) : Int) from by omega, ih k (i + 1) (by omega) (by omega)]
      simp [c]
    · rw [if_neg c]; simp [c]
theorem laws_eqIntS_f (k : Nat) (a b : List Int) (hk : 2000001 ≤ k) (hl : a.length ≤ 2000000) : laws_eqIntS.f k a b = some (decide (a = b)) := by
  unfold laws_eqIntS.f
  by_cases h : a.length = b.length
  · rw [if_pos (by omega)]
    have := laws_eqIntS_l0 a b hl h a.length k 0 (by omega) (by omega)
    simpa using this
  · rw [if_neg (by omega)]
    have : a ≠ b := fun e => h (by rw [e])
    simp [this]
theorem laws_markIntS_l0 : ∀ (rest pre : List Int) (k : Nat) (m : Int), (pre ++ rest).length ≤ 2000000 → rest.length < k → 0 ≤ m → m ≤ 1000000000000 → m + rest.length ≤ 1000000000000 →
    laws_markIntS.l0 k (pre ++ rest) m (pre.length : Int) = some (m + rest.length, pre ++ marks m rest.length) := by
  intro rest
  induction rest with
  | nil =>
    intro pre k m hl hk h0 h1 h2
    obtain ⟨k, rfl⟩ : ∃ m, k = m + 1 := ⟨k - 1, by simp only [List.length_nil] at hk; omega⟩
    simp only [laws_markIntS.l0]
    rw [if_neg (by simp)]; simp [marks]
  | cons x rest ih =>
    intro pre k m hl hk h0 h1 h2
    simp only [List.length_cons, List.length_append] at *
    obtain ⟨k, rfl⟩ : ∃ m, k = m + 1 := ⟨k - 1, by omega⟩
    simp only [laws_markIntS.l0]
    rw [if_pos (by simp only [List.length_append, List.length_cons]; omega), if_pos (by omega), Int.toNat_natCast, set_append_len, w64 _ (by omega) (by omega), w64 _ (by omega) (by omega)]
    have := ih (pre ++ [m]) k (m + 1) (by simp; omega) (by omega) (by omega) (by omega) (by omega)
    simp only [List.append_assoc, List.singleton_append, List.length_append, List.length_singleton] at this
    rw [show (pre.length : Int) + 1 = ((pre.length + 1 : Nat) : Int) from by omega, this]
    simp [marks]; omega
theorem laws_markIntS_f (k : Nat) (l : List Int) (m : Int) (hk : 2000001 ≤ k) (hl : l.length ≤ 2000000) (h0 : 0 ≤ m) (h1 : m ≤ 10000000000) : laws_markIntS.f k l m = some (m + l.length, marks m l.length) := by
  unfold laws_markIntS.f
  have := laws_markIntS_l0 l [] k m (by simpa using hl) (by omega) h0 (by omega) (by omega)
  simpa using this
theorem laws_heldIntS_l0 (l : List Int) (hl : l.length ≤ 2000000) : ∀ (d k i : Nat) (m : Int), i + d = l.length → d < k → 0 ≤ m → m + d ≤ 1000000000000 →
    laws_heldIntS.l0 k l m (i : Int) = some (if l.drop i = marks m d then m + d else -1) := by
  intro d
  induction d with
  | zero =>
    intro k i m h hk h0 h1
    obtain ⟨k, rfl⟩ : ∃ m, k = m + 1 := ⟨k - 1, by omega⟩
    simp only [laws_heldIntS.l0]
    rw [if_neg (by omega), List.drop_eq_nil_of_le (by omega)]; simp [marks]
  | succ d ih =>
    intro k i m h hk h0 h1
    obtain ⟨k, rfl⟩ : ∃ m, k = m + 1 := ⟨k - 1, by omega⟩
    simp only [laws_heldIntS.l0]
    rw [if_pos (by omega), if_pos (by omega), drop_rd l i (by omega), w64 _ (by omega) (by omega), w64 _ (by omega) (by omega)]
    simp only [marks, List.cons.injEq]
    by_cases c : rd l (i : Int) = m
    · rw [if_pos c, show (i : Int) + 1 = ((i + 1 : Nat) : Int) from by omega, ih k (i + 1) (m + 1) (by omega) (by omega) (by omega) (by omega)]
      simp only [c, true_and]
      split
      · congr 1; omega
      · rfl
    · rw [if_neg c, if_neg (fun hh => c hh.1)]
theorem laws_heldIntS_f (k : Nat) (l : List Int) (m : Int) (hk : 2000001 ≤ k) (hl : l.length ≤ 2000000) (h0 : 0 ≤ m) (h1 : m ≤ 10000000000) : laws_heldIntS.f k l m = some (if l = marks m l.length then m + l.length else -1) := by
  unfold laws_heldIntS.f
  have := laws_heldIntS_l0 l hl l.length k 0 m (by omega) (by omega) h0 (by omega)
  simpa using this
theorem laws_heldIntS_marks (k : Nat) (m : Int) (n : Nat) (hk : 2000001 ≤ k) (hl : n ≤ 2000000) (h0 : 0 ≤ m) (h1 : m ≤ 10000000000) : laws_heldIntS.f k (marks m n) m = some (m + n) := by
  rw [laws_heldIntS_f k (marks m n) m hk (by rw [length_marks]; exact hl) h0 h1, length_marks, if_pos rfl]
theorem impl_two_f (k : Nat) (a b : List Int) (hk : 2000001 ≤ k) (ha : a.length ≤ 2000000) (hb : b.length ≤ 2000000) : impl_two.f k a b = some (decide (Word a ∧ Word b ∧ a.length + b.length ≤ 30)) := by
  unfold impl_two.f
  rw [impl_IsWord_f k a hk ha, impl_IsWord_f k b hk hb]
  simp only [bsome]
  by_cases h1 : Word a
  · by_cases h2 : Word b
    · simp only [h1, h2, decide_true, if_true, true_and]
      rw [w64 _ (by omega) (by omega)]
      congr 1
      by_cases h3 : a.length + b.length ≤ 30
      · simp only [h3, decide_true]; exact decide_eq_true (by omega)
      · simp only [h3, decide_false]; exact decide_eq_false (by omega)
    · simp [h1, h2]
  · simp [h1]
theorem spec_l4Fit_f (k : Nat) (a b : List Int) (hk : 2000001 ≤ k) (ha : a.length ≤ 2000000) (hb : b.length ≤ 2000000) : spec_l4Fit.f k a b = some (decide (Word a ∧ Word b ∧ a.length + b.length ≤ 30)) := by
  unfold spec_l4Fit.f
  rw [spec_IsWord_f k a hk ha, spec_IsWord_f k b hk hb]
  simp only [bsome]
  by_cases h1 : Word a
  · by_cases h2 : Word b
    · simp only [h1, h2, decide_true, if_true, true_and]
      rw [w64 _ (by omega) (by omega)]
      congr 1
      by_cases h3 : a.length + b.length ≤ 30
      · simp only [h3, decide_true]; exact decide_eq_true (by omega)
      · simp only [h3, decide_false]; exact decide_eq_false (by omega)
    · simp [h1, h2]
  · simp [h1]
def Good (n : Nat) (ls : List (List Int)) : Prop := ∀ x ∈ ls, Word x ∧ x.length = n
def sumV : List (List Int) → Int
  | [] => 0
  | x :: xs => val x + sumV xs
theorem trit_mul {x y : Int} (hx : Trit x) (hy : Trit y) : Trit (x * y) := by
  unfold Trit at hx
  have : x = -1 ∨ x = 0 ∨ x = 1 := by omega
  unfold Trit at hy
  rcases this with rfl | rfl | rfl <;> unfold Trit <;> omega
theorem val_zeros (n : Nat) : val (List.replicate n 0) = 0 := by
  induction n with
  | zero => rfl
  | succ n ih => rw [List.replicate_succ]; simp [val, ih]
theorem val_scale (w : List Int) (c : Int) : val (w.map (fun x => x * c)) = val w * c := by
  induction w with
  | nil => simp [val]
  | cons x w ih => simp only [List.map_cons, val, ih]; rw [Int.add_mul, Int.mul_assoc]
theorem part_l1 (a b : List Int) (acc : List (List Int)) (j e : Nat) (bj : Int) (hl : a.length ≤ 30) (hj : j ≤ 30) (ta : Trits a) (tb : Trit bj) (hacc : acc.length ≤ 100) : ∀ (d k i : Nat) (pre : List Int), i + d = a.length → d < k → pre.length = j + i →
    impl_PartialsOf.l1 k a b acc (j : Int) bj (pre ++ List.replicate (d + e) 0) b (b.length : Int) (j : Int) a (a.length : Int) (i : Int) = impl_PartialsOf.l0 (k - d - 1) a b (acc ++ [pre ++ ((a.drop i).map (fun x => x * bj) ++ List.replicate e 0)]) b (b.length : Int) (wrap64 ((j : Int) + 1)) := by
  intro d
  induction d with
  | zero =>
    intro k i pre h hk hp
    obtain ⟨k, rfl⟩ : ∃ m, k = m + 1 := ⟨k - 1, by omega⟩
    rw [impl_PartialsOf.l1, if_neg (by omega), if_pos (by omega), List.drop_eq_nil_of_le (by omega)]
    simp
  | succ d ih =>
    intro k i pre h hk hp
    obtain ⟨k, rfl⟩ : ∃ m, k = m + 1 := ⟨k - 1, by omega⟩
    have hx := ta _ (rd_mem a i (by omega))
    have hm := trit_mul hx tb
    unfold Trit at hm
    have ll : (pre ++ List.replicate (d + 1 + e) (0 : Int)).length = j + i + (d + 1 + e) := by rw [List.length_append, List.length_replicate, hp]
    rw [impl_PartialsOf.l1, if_pos (by omega), if_pos (by omega), if_pos (by omega), w64 ((j : Int) + i) (by omega) (by omega), if_pos (by omega), if_pos (by omega), w64 (rd a (i : Int) * bj) (by omega) (by omega), w64 ((i : Int) + 1) (by omega) (by omega)]
    rw [show ((i : Int) + 1) = ((i + 1 : Nat) : Int) from by omega, show ((j : Int) + (i : Int)).toNat = pre.length from by omega, show d + 1 + e = (d + e) + 1 from by omega, List.replicate_succ, set_append_len]
    have := ih k (i + 1) (pre ++ [rd a (i : Int) * bj]) (by omega) (by omega) (by simp; omega)
    rw [List.append_assoc, List.singleton_append] at this
    rw [this, drop_rd a i (by omega), show k + 1 - (d + 1) - 1 = k - d - 1 from by omega]
    simp
theorem part_l0 (a b : List Int) (ha : Word a) (hb : Word b) (hl : a.length + b.length ≤ 30) : ∀ (d k j : Nat) (acc : List (List Int)), j + d = b.length → 100 * d + 100 < k → acc.length ≤ j →
    ∃ rows, impl_PartialsOf.l0 k a b acc b (b.length : Int) (j : Int) = some (acc ++ rows, true) ∧ rows.length = d ∧ Good (a.length + b.length) rows ∧ sumV rows = pow3 j * (val a * val (b.drop j)) := by
  intro d
  induction d with
  | zero =>
    intro k j acc h hk hacc
    obtain ⟨k, rfl⟩ : ∃ m, k = m + 1 := ⟨k - 1, by omega⟩
    refine ⟨[], ?_, rfl, fun x hx => by simp at hx, ?_⟩
    · rw [impl_PartialsOf.l0, if_neg (by omega)]; simp
    · rw [List.drop_eq_nil_of_le (by omega)]; simp [sumV, val]
  | succ d ih =>
    intro k j acc h hk hacc
    obtain ⟨k, rfl⟩ : ∃ m, k = m + 1 := ⟨k - 1, by omega⟩
    have hy := hb.2.2 _ (rd_mem b j (by omega))
    have a1 := ha.1
    have p := part_l1 a b acc j (b.length - j) (rd b (j : Int)) (by omega) (by omega) ha.2.2 hy (by omega) a.length k 0 (List.replicate j 0) (by omega) (by omega) (by simp)
    have er : List.replicate j (0 : Int) ++ List.replicate (a.length + (b.length - j)) 0 = List.replicate (a.length + b.length) 0 := by
      rw [List.replicate_append_replicate]; congr 1; omega
    rw [er, show ((0 : Nat) : Int) = 0 from rfl, List.drop_zero, w64 ((j : Int) + 1) (by omega) (by omega), show ((j : Int) + 1) = ((j + 1 : Nat) : Int) from by omega] at p
    obtain ⟨rows, e, hr, hg, hs⟩ := ih (k - a.length - 1) (j + 1) (acc ++ [List.replicate j 0 ++ (a.map (fun x => x * rd b (j : Int)) ++ List.replicate (b.length - j) 0)]) (by omega) (by omega) (by simp; omega)
    refine ⟨(List.replicate j 0 ++ (a.map (fun x => x * rd b (j : Int)) ++ List.replicate (b.length - j) 0)) :: rows, ?_, by simp [hr], ?_, ?_⟩
    · rw [impl_PartialsOf.l0, if_pos (by omega), if_pos (by omega), if_pos (by omega), w64 ((a.length : Int) + b.length) (by omega) (by omega), if_pos (by omega), if_pos (by omega), show ((a.length : Int) + (b.length : Int)).toNat = a.length + b.length from by omega, p, e]
      simp
    · intro x hx
      rcases List.mem_cons.1 hx with rfl | hx
      · have lx : (List.replicate j (0 : Int) ++ (a.map (fun x => x * rd b (j : Int)) ++ List.replicate (b.length - j) 0)).length = a.length + b.length := by
          rw [List.length_append, List.length_append, List.length_map, List.length_replicate, List.length_replicate]; omega
        refine ⟨⟨by omega, by omega, ?_⟩, lx⟩
        have z : ∀ m : Nat, Trits (List.replicate m (0 : Int)) := fun m x hx => by rw [List.eq_of_mem_replicate hx]; unfold Trit; omega
        refine (z j).append (Trits.append (fun x hx => ?_) (z _))
        obtain ⟨y, hy', rfl⟩ := List.mem_map.1 hx
        exact trit_mul (ha.2.2 y hy') hy
      · exact hg x hx
    · rw [sumV, hs, val_append, val_append, val_zeros, val_zeros, val_scale, List.length_replicate, drop_rd b j (by omega)]
      simp only [val, pow3]
      generalize rd b (j : Int) = y
      generalize val (b.drop (j + 1)) = D
      generalize val a = v
      rw [Int.mul_zero, Int.add_zero, Int.zero_add, Int.mul_add, Int.mul_add]
      have : 3 * pow3 j * (v * D) = pow3 j * (v * (3 * D)) := by
        rw [Int.mul_comm 3 (pow3 j), Int.mul_assoc, Int.mul_left_comm 3 v D]
      omega
theorem impl_PartialsOf_f (k : Nat) (a b : List Int) (hk : 3000000 ≤ k) (ha : Word a) (hb : Word b) (hl : a.length + b.length ≤ 30) : ∃ rows, impl_PartialsOf.f k a b = some (rows, true) ∧ rows.length = b.length ∧ Good (a.length + b.length) rows ∧ sumV rows = val a * val b := by
  obtain ⟨rows, e, hr, hg, hs⟩ := part_l0 a b ha hb hl b.length k 0 [] (by omega) (by have := hb.2.1; omega) (by simp)
  refine ⟨rows, ?_, hr, hg, by rw [hs]; simp [pow3]⟩
  unfold impl_PartialsOf.f
  rw [impl_two_f k a b (by omega) (by omega) (by omega), bsome, if_pos (by simp [ha, hb, hl])]
  exact e
/-- The number of all elements of the inner rows; the rows as they stand when each element has its number. -/
def totI : List (List Int) → Int
  | [] => 0
  | r :: rs => (r.length : Int) + totI rs
def marksSS (a : Int) : List (List Int) → List (List Int)
  | [] => []
  | r :: rs => marks a r.length :: marksSS (a + r.length) rs
theorem totI_nonneg : ∀ l : List (List Int), 0 ≤ totI l
  | [] => by simp [totI]
  | r :: rs => by rw [totI]; have := totI_nonneg rs; omega
theorem marksSS_len : ∀ (l : List (List Int)) (a : Int), (marksSS a l).length = l.length
  | [], _ => rfl
  | r :: rs, a => by rw [marksSS, List.length_cons, marksSS_len rs, List.length_cons]
theorem rd_pre (pre : List (List Int)) (r : List Int) (l : List (List Int)) : rd_L1 (pre ++ r :: l) (pre.length : Int) = r := by
  simp [rd_L1]
theorem markIntSS_l0 : ∀ (l pre : List (List Int)) (k : Nat) (a : Int), l.length + 2000001 < k → pre.length + l.length ≤ 3000000 → (∀ r ∈ l, r.length ≤ 2000000) → 0 ≤ a → a + totI l ≤ 1000000000 →
    laws_markIntSS.l0 k (pre ++ l) a (pre.length : Int) = some (a + totI l, pre ++ marksSS a l) := by
  intro l
  induction l with
  | nil =>
    intro pre k a hk hp hr h0 h1
    obtain ⟨k, rfl⟩ : ∃ m, k = m + 1 := ⟨k - 1, by omega⟩
    simp only [laws_markIntSS.l0]
    rw [if_neg (by simp), totI, marksSS, Int.add_zero]
  | cons r l ih =>
    intro pre k a hk hp hr h0 h1
    obtain ⟨k, rfl⟩ : ∃ m, k = m + 1 := ⟨k - 1, by omega⟩
    simp only [laws_markIntSS.l0]
    have hn := totI_nonneg l
    rw [totI] at h1
    rw [List.length_cons] at hk hp
    have hg : (pre ++ r :: l).getD (pre.length : Int).toNat [] = r := by simp
    have hs : ∀ x : List Int, (pre ++ r :: l).set (pre.length : Int).toNat x = (pre ++ [x]) ++ l := by intro x; simp
    rw [if_pos (by simp only [List.length_append, List.length_cons]; omega), if_pos (by omega), hg, laws_markIntS_f k r a (by omega) (hr r List.mem_cons_self) h0 (by omega), bsome, hs, w64 _ (by omega) (by omega)]
    have := ih (pre ++ [marks a r.length]) k (a + r.length) (by omega) (by rw [List.length_append, List.length_singleton]; omega) (fun x hx => hr x (List.mem_cons_of_mem _ hx)) (by omega) (by omega)
    rw [List.length_append, List.length_singleton, show ((pre.length + 1 : Nat) : Int) = (pre.length : Int) + 1 from by omega] at this
    rw [this, totI, marksSS, Int.add_assoc]; simp
theorem markIntSS_f (k : Nat) (l : List (List Int)) (a : Int) (hk : 6000000 ≤ k) (hl : l.length ≤ 2000000) (hr : ∀ r ∈ l, r.length ≤ 2000000) (h0 : 0 ≤ a) (h1 : a + totI l ≤ 1000000000) : laws_markIntSS.f k l a = some (a + totI l, marksSS a l) := by
  unfold laws_markIntSS.f
  have := markIntSS_l0 l [] k a (by omega) (by simp; omega) hr h0 h1
  simpa using this
theorem heldIntSS_l0 : ∀ (l pre : List (List Int)) (k : Nat) (a : Int), l.length + 2000001 < k → pre.length + l.length ≤ 3000000 → (∀ r ∈ l, r.length ≤ 2000000) → 0 ≤ a → a + totI l ≤ 1000000000 →
    laws_heldIntSS.l0 k (pre ++ marksSS a l) a (pre.length : Int) = some (a + totI l) := by
  intro l
  induction l with
  | nil =>
    intro pre k a hk hp hr h0 h1
    obtain ⟨k, rfl⟩ : ∃ m, k = m + 1 := ⟨k - 1, by omega⟩
    simp only [laws_heldIntSS.l0]
    rw [if_neg (by simp [marksSS]), totI, Int.add_zero]
  | cons r l ih =>
    intro pre k a hk hp hr h0 h1
    obtain ⟨k, rfl⟩ : ∃ m, k = m + 1 := ⟨k - 1, by omega⟩
    simp only [laws_heldIntSS.l0]
    have hn := totI_nonneg l
    rw [totI] at h1
    rw [List.length_cons] at hk hp
    rw [marksSS, if_pos (by simp only [List.length_append, List.length_cons]; omega), if_pos (by omega), rd_pre, laws_heldIntS_marks k a r.length (by omega) (hr r List.mem_cons_self) h0 (by omega), bsome, if_neg (by omega), w64 _ (by omega) (by omega)]
    have := ih (pre ++ [marks a r.length]) k (a + r.length) (by omega) (by rw [List.length_append, List.length_singleton]; omega) (fun x hx => hr x (List.mem_cons_of_mem _ hx)) (by omega) (by omega)
    rw [List.length_append, List.length_singleton, show ((pre.length + 1 : Nat) : Int) = (pre.length : Int) + 1 from by omega, List.append_assoc, List.singleton_append] at this
    rw [this, totI, Int.add_assoc]
theorem heldIntSS_f (k : Nat) (l : List (List Int)) (a : Int) (hk : 6000000 ≤ k) (hl : l.length ≤ 2000000) (hr : ∀ r ∈ l, r.length ≤ 2000000) (h0 : 0 ≤ a) (h1 : a + totI l ≤ 1000000000) : laws_heldIntSS.f k (marksSS a l) a = some (a + totI l) := by
  unfold laws_heldIntSS.f
  have := heldIntSS_l0 l [] k a (by omega) (by simp; omega) hr h0 h1
  simpa using this
theorem eqIntSS_same (k : Nat) (l : List (List Int)) (hk : 6000000 ≤ k) (hl : l.length ≤ 2000000) (hr : ∀ r ∈ l, r.length ≤ 2000000) : laws_eqIntSS.f k l l = some true := by
  have key : ∀ (d k i : Nat), i + d = l.length → d + 2000001 < k → laws_eqIntSS.l0 k l l (i : Int) = some true := by
    intro d
    induction d with
    | zero =>
      intro k i h hk
      obtain ⟨k, rfl⟩ : ∃ m, k = m + 1 := ⟨k - 1, by omega⟩
      simp only [laws_eqIntSS.l0]
      rw [if_neg (by omega)]
    | succ d ih =>
      intro k i h hk
      obtain ⟨k, rfl⟩ : ∃ m, k = m + 1 := ⟨k - 1, by omega⟩
      simp only [laws_eqIntSS.l0]
      have hm : rd_L1 l (i : Int) ∈ l := by
        unfold rd_L1
        rw [Int.toNat_natCast, List.getD_eq_getElem?_getD, List.getElem?_eq_getElem (by omega)]
        exact List.getElem_mem _
      rw [if_pos (by omega), if_pos (by omega), if_pos (by omega), laws_eqIntS_f k _ _ (by omega) (hr _ hm), bsome, if_pos (decide_eq_true rfl), w64 _ (by omega) (by omega), show (i : Int) + 1 = ((i + 1 : Nat) : Int) from by omega]
      exact ih k (i + 1) (by omega) (by omega)
  unfold laws_eqIntSS.f
  rw [if_pos rfl]
  exact key l.length k 0 (by omega) (by omega)
theorem Partials_same : ∀ k : Nat, (∀ a b c d e f, spec_PartialsOf.l0 k a b c d e f = impl_PartialsOf.l0 k a b c d e f) ∧ (∀ a b c d e f g h i j x y, spec_PartialsOf.l1 k a b c d e f g h i j x y = impl_PartialsOf.l1 k a b c d e f g h i j x y)
  | 0 => ⟨fun _ _ _ _ _ _ => rfl, fun _ _ _ _ _ _ _ _ _ _ _ _ => rfl⟩
  | k + 1 => by
    obtain ⟨h0, h1⟩ := Partials_same k
    constructor
    · intro a b c d e f
      simp only [spec_PartialsOf.l0, impl_PartialsOf.l0, h1]
    · intro a b c d e f g h i j x y
      simp only [spec_PartialsOf.l1, impl_PartialsOf.l1, h0, h1]
theorem totI_good (n : Nat) : ∀ l : List (List Int), Good n l → totI l = (n : Int) * l.length
  | [], _ => by simp [totI]
  | r :: rs, h => by
    rw [totI, totI_good n rs (fun x hx => h x (List.mem_cons_of_mem _ hx)), (h r List.mem_cons_self).2, List.length_cons, Int.natCast_add, Int.mul_add]; omega
end FnExactPartialsOfParts
open FnExactPartialsOfParts
attribute [local congr] bind_left

theorem FnExactPartialsOf : laws_FnExactPartialsOf.Pure := by
  intro a b _ _ _ _ _ _ h0 h1
  obtain ⟨K, hK⟩ : ∃ K, 10000000 ≤ K := ⟨_, Nat.le_refl _⟩
  refine ⟨K, ?_⟩
  have fin : ∀ (R : List (List Int)) (b_ : Bool), spec_PartialsOf.f K a b = some (R, b_) → impl_PartialsOf.f K a b = some (R, b_) → R.length ≤ 30 → (∀ r ∈ R, r.length ≤ 30) → totI R ≤ 100000 → laws_FnExactPartialsOf.Q K a b := by
    intro R b_ s i hl hr ht
    have hr2 : ∀ r ∈ R, r.length ≤ 2000000 := fun r h => Nat.le_trans (hr r h) (by omega)
    have hn := totI_nonneg R
    refine ⟨R, marksSS 1 R, b_, marks 1 a.length, marks (1 + a.length) b.length, 1 + a.length, 1 + a.length + b.length, 1 + totI R, laws_toIntS_f K a (by omega) (by omega), laws_toIntS_f K b (by omega) (by omega), s, i, eqIntSS_same K R (by omega) (by omega) hr2, ?_, ?_, laws_markIntS_f K a 1 (by omega) (by omega) (by omega) (by omega), laws_markIntS_f K b _ (by omega) (by omega) (by omega) (by omega), by omega, markIntSS_f K R 1 (by omega) (by omega) hr2 (by omega) (by omega), heldIntSS_f K R 1 (by omega) (by omega) hr2 (by omega) (by omega), by omega, marksSS_len R 1⟩
    · rw [laws_eqIntS_f K a a (by omega) (by omega), decide_eq_true rfl]
    · rw [laws_eqIntS_f K b b (by omega) (by omega), decide_eq_true rfl]
  by_cases c : Word a ∧ Word b ∧ a.length + b.length ≤ 30
  · obtain ⟨rows, e, hl, hg, _⟩ := impl_PartialsOf_f K a b (by omega) c.1 c.2.1 c.2.2
    refine fin rows true ?_ e (by omega) (fun r h => by have := (hg r h).2; omega) ?_
    · rw [← e]
      unfold spec_PartialsOf.f impl_PartialsOf.f
      rw [spec_l4Fit_f K a b (by omega) (by omega) (by omega), impl_two_f K a b (by omega) (by omega) (by omega), bsome, bsome, decide_eq_true c, if_pos rfl, if_pos rfl]
      exact (Partials_same K).1 _ _ _ _ _ _
    · rw [totI_good _ rows hg, hl]
      have : (a.length + b.length) * b.length ≤ 30 * 30 := Nat.mul_le_mul c.2.2 (by omega)
      have h2 : ((a.length + b.length : Nat) : Int) * ((b.length : Nat) : Int) = (((a.length + b.length) * b.length : Nat) : Int) := by rw [Int.natCast_mul]
      rw [h2]; omega
  · refine fin [] false ?_ ?_ (by simp) (by simp) (by simp [totI])
    · unfold spec_PartialsOf.f
      rw [spec_l4Fit_f K a b (by omega) (by omega) (by omega), bsome, decide_eq_false c, if_neg (by decide)]
    · unfold impl_PartialsOf.f
      rw [impl_two_f K a b (by omega) (by omega) (by omega), bsome, decide_eq_false c, if_neg (by decide)]

end Go.Proofs.Ytefjepcknmhblaa.Pure
