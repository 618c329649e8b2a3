/- For all floating numbers the program's FormatFloat gives what the reference gives, and changes no argument; no condition. -/
import Derived.Test.YtffhddibgfaopaaDoorZDfPTf5
import Derived.Test.YtffhddibgfaopaaDoorZDfGlue
namespace Go.Proofs.YtffhddibgfaopaaDoor.Pure
open Go.RowKit Go.Proofs.YtffhddibgfaopaaDoor.Tern Go.Proofs.YtffhddibgfaopaaDoor.P Go.Proofs.YtffhddibgfaopaaDoorW.PrintWords Go.Proofs.YtffhddibgfaopaaDoorW.PrintLast
set_option linter.unusedVariables false
set_option linter.unusedSimpArgs false

namespace FnExactFormatFloatParts
theorem impl_IsTrit_f (a : Int) : impl_IsTrit.f a = some (decide (Trit a)) := by
  unfold impl_IsTrit.f Trit
  split
  · rename_i h
    simp [show -1 ≤ a from h]
  · rename_i h
    have : ¬ (-1 ≤ a) := h
    simp [this]
theorem spec_IsTrit_f (a : Int) : spec_IsTrit.f a = some (decide (Trit a)) := by
  unfold spec_IsTrit.f spec_l1In.f Trit
  split
  · rename_i h
    simp [show -1 ≤ a from h]
  · rename_i h
    have : ¬ (-1 ≤ a) := h
    simp [this]
theorem spec_l1In_f (x a b : Int) : spec_l1In.f x a b = some (decide (a ≤ x ∧ x ≤ b)) := by
  unfold spec_l1In.f
  split
  · rename_i h
    simp [show a ≤ x from h]
  · rename_i h
    have : ¬ (a ≤ x) := h
    simp [this]
theorem impl_trits_l0 (l : List Int) (hl : l.length ≤ 2000000) : ∀ (d k i : Nat), i + d = l.length → d < k →
    impl_trits.l0 k l (l.length : Int) (i : Int) = some (decide (Trits (l.drop i))) := by
  intro d
  induction d with
  | zero =>
    intro k i h hk
    obtain ⟨k, rfl⟩ : ∃ m, k = m + 1 := ⟨k - 1, by omega⟩
    simp only [impl_trits.l0]
    rw [if_neg (by omega), List.drop_eq_nil_of_le (by omega)]
    simp [Trits.nil]
  | succ d ih =>
    intro k i h hk
    obtain ⟨k, rfl⟩ : ∃ m, k = m + 1 := ⟨k - 1, by omega⟩
    simp only [impl_trits.l0]
    rw [if_pos (by omega), if_pos (by omega), if_pos (by omega), impl_IsTrit_f, drop_rd l i (by omega)]
    simp only [bsome, Trits.cons]
    by_cases ht : Trit (rd l (i : Int))
    · rw [if_pos (by simpa using ht), w64 _ (by omega) (by omega)]
      have := ih k (i + 1) (by omega) (by omega)
      rw [show ((i + 1 : Nat) : Int) = (i : Int) + 1 from by omega] at this
      rw [this]; simp [ht]
    · rw [if_neg (by simpa using ht)]; simp [ht]
theorem impl_trits_f (k : Nat) (l : List Int) (hk : 2000001 ≤ k) (hl : l.length ≤ 2000000) : impl_trits.f k l = some (decide (Trits l)) := by
  unfold impl_trits.f
  have := impl_trits_l0 l hl l.length k 0 (by omega) (by omega)
  simpa using this
theorem spec_IsWord_l0 (l : List Int) (hl : l.length ≤ 2000000) : ∀ (d k i : Nat), i + d = l.length → d < k →
    spec_IsWord.l0 k l l (l.length : Int) (i : Int) = some (decide (1 ≤ l.length ∧ l.length ≤ 30 ∧ Trits (l.drop i))) := by
  intro d
  induction d with
  | zero =>
    intro k i h hk
    obtain ⟨k, rfl⟩ : ∃ m, k = m + 1 := ⟨k - 1, by omega⟩
    simp only [spec_IsWord.l0]
    rw [if_neg (by omega), List.drop_eq_nil_of_le (by omega), spec_l1In_f]
    have e : (1 ≤ (l.length : Int) ∧ (l.length : Int) ≤ 30) = (1 ≤ l.length ∧ l.length ≤ 30) := by apply propext; omega
    simp [Trits.nil, e]
  | succ d ih =>
    intro k i h hk
    obtain ⟨k, rfl⟩ : ∃ m, k = m + 1 := ⟨k - 1, by omega⟩
    simp only [spec_IsWord.l0]
    rw [if_pos (by omega), if_pos (by omega), if_pos (by omega), spec_IsTrit_f, drop_rd l i (by omega)]
    simp only [bsome, Trits.cons]
    by_cases ht : Trit (rd l (i : Int))
    · rw [if_pos (by simpa using ht), w64 _ (by omega) (by omega)]
      have := ih k (i + 1) (by omega) (by omega)
      rw [show ((i + 1 : Nat) : Int) = (i : Int) + 1 from by omega] at this
      rw [this]; simp [ht]
    · rw [if_neg (by simpa using ht)]; simp [ht]
theorem spec_IsWord_f (k : Nat) (l : List Int) (hk : 2000001 ≤ k) (hl : l.length ≤ 2000000) : spec_IsWord.f k l = some (decide (Word l)) := by
  unfold spec_IsWord.f Word
  exact spec_IsWord_l0 l hl l.length k 0 (by omega) (by omega)
theorem spec_l2Value_l0 (l : List Int) (hl : l.length ≤ 30) (hb : Digs l) : ∀ (n k : Nat) (x : Int), n ≤ l.length → n < k → x = (n : Int) - 1 →
    spec_l2Value.l0 k l (val (l.drop n)) x = some (val l) := by
  intro n
  induction n with
  | zero =>
    intro k x h hk hx
    obtain ⟨k, rfl⟩ : ∃ m, k = m + 1 := ⟨k - 1, by omega⟩
    simp only [spec_l2Value.l0]
    rw [if_neg (by omega), List.drop_zero]
  | succ n ih =>
    intro k x h hk hx
    obtain ⟨k, rfl⟩ : ∃ m, k = m + 1 := ⟨k - 1, by omega⟩
    obtain rfl : x = (n : Int) := by omega
    have b1 := val_drop_bd l hl hb (n + 1)
    have b2 := hb _ (rd_mem l n (by omega))
    simp only [spec_l2Value.l0]
    rw [if_pos (by omega), if_pos (by omega), if_pos (by omega), w64 (3 * _) (by omega) (by omega), w64 _ (by omega) (by omega), w64 _ (by omega) (by omega)]
    have e : val (l.drop n) = 3 * val (l.drop (n + 1)) + rd l (n : Int) := by rw [drop_rd l n (by omega)]; simp only [val]; omega
    rw [← e]
    exact ih k _ (by omega) (by omega) rfl
theorem spec_l2Value_f (k : Nat) (l : List Int) (hk : 31 ≤ k) (hl : l.length ≤ 30) (hb : Digs l) : spec_l2Value.f k l = some (val l) := by
  unfold spec_l2Value.f
  have := spec_l2Value_l0 l hl hb l.length k (wrap64 ((l.length : Int) - 1)) (Nat.le_refl _) (by omega) (w64 _ (by omega) (by omega))
  rw [List.drop_length] at this
  exact this
theorem laws_toIntS_l0 (l : List Int) (hl : l.length ≤ 2000000) : ∀ (d k i : Nat), i + d = l.length → d < k →
    laws_toIntS.l0 k l (l.take i ++ List.replicate d 0) (i : Int) = some l := by
  intro d
  induction d with
  | zero =>
    intro k i h hk
    obtain ⟨k, rfl⟩ : ∃ m, k = m + 1 := ⟨k - 1, by omega⟩
    simp only [laws_toIntS.l0]
    rw [if_neg (by omega)]; simp [List.take_of_length_le (show l.length ≤ i by omega)]
  | succ d ih =>
    intro k i h hk
    obtain ⟨k, rfl⟩ : ∃ m, k = m + 1 := ⟨k - 1, by omega⟩
    have hlen : (l.take i).length = i := by rw [List.length_take]; omega
    simp only [laws_toIntS.l0]
    rw [if_pos (by omega), if_pos (by omega), if_pos (by rw [List.length_append, List.length_replicate, hlen]; omega), w64 _ (by omega) (by omega)]
    have e : (l.take i ++ List.replicate (d + 1) (0 : Int)).set (i : Int).toNat (rd l (i : Int)) = l.take (i + 1) ++ List.replicate d 0 := by
      have h1 := set_append_len (l.take i) 0 (rd l (i : Int)) (List.replicate d 0)
      rw [hlen] at h1
      rw [Int.toNat_natCast, List.replicate_succ, h1, take_rd l i (by omega), List.append_assoc]; rfl
    rw [e, show (i : Int) + 1 = ((i + 1 : Nat) : Int) from by omega]
    exact ih k (i + 1) (by omega) (by omega)
theorem laws_toIntS_f (k : Nat) (l : List Int) (hk : 2000001 ≤ k) (hl : l.length ≤ 2000000) : laws_toIntS.f k l = some l := by
  unfold laws_toIntS.f
  rw [if_pos (by omega), if_pos (by omega)]
  have := laws_toIntS_l0 l hl l.length k 0 (by omega) (by omega)
  simpa using this
theorem laws_eqIntS_l0 (a b : List Int) (hl : a.length ≤ 2000000) (hb : a.length = b.length) : ∀ (d k i : Nat), i + d = a.length → d < k →
    laws_eqIntS.l0 k a b (i : Int) = some (decide (a.drop i = b.drop i)) := by
  intro d
  induction d with
  | zero =>
    intro k i h hk
    obtain ⟨k, rfl⟩ : ∃ m, k = m + 1 := ⟨k - 1, by omega⟩
    simp only [laws_eqIntS.l0]
    rw [if_neg (by omega), List.drop_eq_nil_of_le (by omega), List.drop_eq_nil_of_le (by omega)]; simp
  | succ d ih =>
    intro k i h hk
    obtain ⟨k, rfl⟩ : ∃ m, k = m + 1 := ⟨k - 1, by omega⟩
    simp only [laws_eqIntS.l0]
    rw [if_pos (by omega), if_pos (by omega), if_pos (by omega), drop_rd a i (by omega), drop_rd b i (by omega), w64 _ (by omega) (by omega)]
    by_cases c : rd a (i : Int) = rd b (i : Int)
    · rw [if_pos c, show (i : Int) + 1 = ((i + 1 : Nat) : Int) from by omega, ih k (i + 1) (by omega) (by omega)]
      simp [c]
    · rw [if_neg c]; simp [c]
theorem laws_eqIntS_f (k : Nat) (a b : List Int) (hk : 2000001 ≤ k) (hl : a.length ≤ 2000000) : laws_eqIntS.f k a b = some (decide (a = b)) := by
  unfold laws_eqIntS.f
  by_cases h : a.length = b.length
  · rw [if_pos (by omega)]
    have := laws_eqIntS_l0 a b hl h a.length k 0 (by omega) (by omega)
    simpa using this
  · rw [if_neg (by omega)]
    have : a ≠ b := fun e => h (by rw [e])
    simp [this]
theorem impl_highest_l0 (l : List Int) (hl : l.length ≤ 1000) (ht : Trits l) : ∀ (i k : Nat) (x : Int), i ≤ l.length → i < k → x = (i : Int) - 1 → impl_highest.l0 k l x = some (sg (val (l.take i))) := by
  intro i
  induction i with
  | zero =>
    intro k x h hk hx
    obtain ⟨k, rfl⟩ : ∃ m, k = m + 1 := ⟨k - 1, by omega⟩
    rw [impl_highest.l0, if_neg (by omega)]
    rfl
  | succ i ih =>
    intro k x h hk hx
    obtain ⟨k, rfl⟩ : ∃ m, k = m + 1 := ⟨k - 1, by omega⟩
    obtain rfl : x = (i : Int) := by omega
    have hy := ht _ (rd_mem l i (by omega))
    have lt : (l.take i).length = i := by rw [List.length_take]; omega
    have bd := val_bd (l.take i) (ht.take i)
    have p := pow3_lim i
    have va : val (l.take (i + 1)) = val (l.take i) + pow3 i * rd l (i : Int) := by
      rw [take_rd l i (by omega), val_append, lt]
      simp [val]
    rw [lt] at bd
    have ln := lim_nonneg i
    rw [impl_highest.l0, if_pos (by omega), if_pos (by omega), if_pos (by omega), va]
    generalize rd l (i : Int) = y at *
    unfold Trit at hy
    have : y = -1 ∨ y = 0 ∨ y = 1 := by omega
    rcases this with rfl | rfl | rfl
    · rw [if_neg (by omega)]
      unfold sg
      rw [if_pos (by omega)]
    · rw [if_pos rfl, Int.mul_zero, Int.add_zero]
      exact ih k _ (by omega) (by omega) (by rw [w64 _ (by omega) (by omega)])
    · rw [if_neg (by omega)]
      unfold sg
      rw [if_neg (by omega), if_pos (by omega)]
theorem laws_szIntS_f (l : List Int) (a : Int) (hl : l.length ≤ maxLen) (h0 : 0 ≤ a) (h1 : a ≤ 1048576) : laws_szIntS.f l a = some (if a < (l.length : Int) then -1 else a - l.length) := by
  unfold maxLen at hl
  unfold laws_szIntS.f
  rw [w64 _ (by omega) (by omega)]
  by_cases h : a < (l.length : Int)
  · rw [if_pos (by omega), if_pos h]
  · rw [if_neg (by omega), if_neg h]
theorem laws_szFloating_f (l : List Int) (e a : Int) (hl : l.length ≤ maxLen) (h0 : 0 ≤ a) (h1 : a ≤ 1048576) : laws_szFloating.f l e a = some (if a < (l.length : Int) then -1 else a - l.length) := by
  unfold laws_szFloating.f
  rw [laws_szIntS_f l a hl h0 h1, bsome]
  by_cases h : a < (l.length : Int)
  · rw [if_pos h, if_pos (by omega)]
  · rw [if_neg h, if_neg (by omega)]
theorem laws_toFloating_f (k : Nat) (l : List Int) (e : Int) (hk : 2000001 ≤ k) (hl : l.length ≤ 2000000) : laws_toFloating.f k l e = some (l, e) := by
  unfold laws_toFloating.f
  rw [laws_toIntS_f k l hk hl, bsome]
theorem laws_eqFloating_f (k : Nat) (a : List Int) (ea : Int) (b : List Int) (eb : Int) (hk : 2000001 ≤ k) (hl : a.length ≤ 2000000) : laws_eqFloating.f k a ea b eb = some (decide (a = b ∧ ea = eb)) := by
  unfold laws_eqFloating.f
  rw [laws_eqIntS_f k a b hk hl, bsome]
  by_cases h : a = b <;> by_cases h2 : ea = eb <;> simp [h, h2]
theorem laws_eqFloating_same (k : Nat) (a : List Int) (ea : Int) (hk : 2000001 ≤ k) (hl : a.length ≤ 2000000) : laws_eqFloating.f k a ea a ea = some true := by
  rw [laws_eqFloating_f k a ea a ea hk hl]; simp
theorem impl_highest_f (k : Nat) (l : List Int) (hk : 2000 ≤ k) (hl : l.length ≤ 1000) (ht : Trits l) : impl_highest.f k l = some (sg (val l)) := by
  unfold impl_highest.f
  have := impl_highest_l0 l hl ht l.length k ((l.length : Int) - 1) (by omega) (by omega) rfl
  rw [List.take_length] at this
  rw [w64 _ (by omega) (by omega), this]
theorem sg_zero (v : Int) : sg v = 0 ↔ v = 0 := by
  unfold sg
  split
  · omega
  · split <;> omega
theorem impl_IsFloat_f (k : Nat) (l : List Int) (e : Int) (hk : 2000001 ≤ k) (hl : l.length ≤ 2000000) : impl_IsFloat.f k l e = some (decide (Fl l e)) := by
  unfold impl_IsFloat.f
  by_cases h6 : (l.length : Int) = 6
  · rw [if_pos h6, impl_trits_f k l hk hl, bsome]
    by_cases ht : Trits l
    · rw [if_pos (by simpa using ht)]
      by_cases h1 : e < -20
      · rw [if_pos h1, decide_eq_false]; intro h; have := h.2.2.1; omega
      · rw [if_neg h1]
        by_cases h2 : e > 20
        · rw [if_pos h2, decide_eq_false]; intro h; have := h.2.2.2.1; omega
        · rw [if_neg h2, if_pos (by omega)]
          have er : rd l 5 = l.getD 5 0 := rfl
          by_cases h3 : rd l 5 = 0
          · rw [if_pos h3, impl_highest_f k l (by omega) (by omega) ht, bsome]
            by_cases h4 : val l = 0
            · rw [if_pos ((sg_zero _).2 h4)]
              congr 1
              by_cases h5 : e = 0
              · subst h5; rw [decide_eq_true]; rfl; exact ⟨by omega, ht, by decide, by decide, .inr ⟨h4, rfl⟩⟩
              · rw [decide_eq_false]; simp [h5]
                intro h; rcases h.2.2.2.2 with h | h
                · exact h (er ▸ h3)
                · exact h5 h.2
            · rw [if_neg (fun h => h4 ((sg_zero _).1 h)), decide_eq_false]
              intro h; rcases h.2.2.2.2 with h | h
              · exact h (er ▸ h3)
              · exact h4 h.1
          · rw [if_neg h3, decide_eq_true]
            exact ⟨by omega, ht, by omega, by omega, .inl (fun h => h3 (er.trans h))⟩
    · rw [if_neg (by simpa using ht), decide_eq_false]; intro h; exact ht h.2.1
  · rw [if_neg h6, decide_eq_false]; intro h; have := h.1; omega
theorem spec_IsFloat_f (k : Nat) (l : List Int) (e : Int) (hk : 2000001 ≤ k) (hl : l.length ≤ 2000000) : spec_IsFloat.f k l e = some (decide (Fl l e)) := by
  unfold spec_IsFloat.f
  rw [spec_IsWord_f k l hk hl, bsome]
  by_cases hw : Word l
  · rw [if_pos (by simpa using hw)]
    by_cases h6 : (l.length : Int) = 6
    · rw [if_pos h6, spec_l1In_f, bsome]
      by_cases hr : -20 ≤ e ∧ e ≤ 20
      · rw [if_pos (by simpa using hr), if_pos (by omega)]
        have er : rd l 5 = l.getD 5 0 := rfl
        by_cases h3 : rd l 5 = 0
        · rw [if_pos h3]
          by_cases h5 : e = 0
          · rw [if_pos h5, spec_l2Value_f k l (by omega) hw.2.1 hw.2.2.digs, bsome]
            by_cases h4 : val l = 0
            · rw [decide_eq_true (p := Fl l e) ⟨by omega, hw.2.2, by omega, by omega, .inr ⟨h4, h5⟩⟩, h4]; rfl
            · rw [decide_eq_false]
              · simp [h4]
              · intro h; rcases h.2.2.2.2 with h | h
                · exact h (er ▸ h3)
                · exact h4 h.1
          · rw [if_neg h5, decide_eq_false]; intro h; rcases h.2.2.2.2 with h | h
            · exact h (er ▸ h3)
            · exact h5 h.2
        · rw [if_neg h3, decide_eq_true]; exact ⟨by omega, hw.2.2, by omega, by omega, .inl (fun h => h3 (er.trans h))⟩
      · rw [if_neg (by simpa using hr), decide_eq_false]; intro h; exact hr ⟨h.2.2.1, h.2.2.2.1⟩
    · rw [if_neg h6, decide_eq_false]; intro h; have := h.1; omega
  · rw [if_neg (by simpa using hw), decide_eq_false]; intro h; exact hw ⟨by have := h.1; omega, by have := h.1; omega, h.2.1⟩
/-- More rounds tell the same. -/
theorem up_of {α : Type} (F : Nat → Option α) (hm : ∀ k, LeO (F k) (F (k + 1))) (r : α) (n : Nat) (h : F n = some r) : ∀ k, n ≤ k → F k = some r := by
  intro k hk
  induction k with
  | zero => have : n = 0 := by omega
            subst this; exact h
  | succ k ih =>
    by_cases c : n = k + 1
    · rw [← c]; exact h
    · exact hm k r (ih (by omega))
/-- All lists of n trits. -/
def tritsL : Nat → List (List Int)
  | 0 => [[]]
  | n + 1 => (tritsL n).flatMap fun w => [(-1) :: w, 0 :: w, 1 :: w]
theorem mem_tritsL : ∀ (n : Nat) (l : List Int), l.length = n → Trits l → l ∈ tritsL n
  | 0, l, h, _ => by cases l with
    | nil => simp [tritsL]
    | cons a r => simp at h
  | n + 1, l, h, t => by
    cases l with
    | nil => simp at h
    | cons a r =>
      have ht : Trit a := t a (by simp)
      have ih := mem_tritsL n r (by simpa using h) (fun x hx => t x (by simp [hx]))
      simp only [tritsL, List.mem_flatMap]
      refine ⟨r, ih, ?_⟩
      rcases (show a = -1 ∨ a = 0 ∨ a = 1 by unfold Trit at ht; omega) with rfl | rfl | rfl <;> simp
/-- A trit's letter, and a word's text: its highest trit first. -/
def chT (t : Int) : UInt8 := if t = 1 then 43 else if t = 0 then 48 else 45
def txtW (l : List Int) : List UInt8 := (l.reverse).map chT
def sameT (o : Option ByteArray) (x : List UInt8) : Bool := match o with
  | some b => decide (b.data.toList = x)
  | none => false
theorem sameT_eq {o : Option ByteArray} {x : List UInt8} (h : sameT o x = true) : o = some ⟨x.toArray⟩ := by
  unfold sameT at h
  cases o with
  | none => simp at h
  | some b => simp only [decide_eq_true_eq] at h; subst h; cases b; simp
theorem txtW_len (l : List Int) : (txtW l).length = l.length := by simp [txtW]
theorem words_spec : (tritsL 6).all (fun l => sameT (spec_FormatWord.f 40 l) (txtW l)) = true := by decide +kernel
theorem spec_FormatWord_f (k : Nat) (l : List Int) (hk : 40 ≤ k) (hl : l.length = 6) (ht : Trits l) : spec_FormatWord.f k l = some ⟨(txtW l).toArray⟩ :=
  up_of (fun k => spec_FormatWord.f k l) (spec_FormatWord.mono l) _ 40 (sameT_eq (List.all_eq_true.mp words_spec l (mem_tritsL 6 l hl ht))) k hk
theorem words_impl : (tritsL 6).all (fun l => sameT (impl_FormatWord.f 40 l) (txtW l)) = true := by decide +kernel
theorem impl_FormatWord_f (k : Nat) (l : List Int) (hk : 40 ≤ k) (hl : l.length = 6) (ht : Trits l) : impl_FormatWord.f k l = some ⟨(txtW l).toArray⟩ :=
  up_of (fun k => impl_FormatWord.f k l) (impl_FormatWord.mono l) _ 40 (sameT_eq (List.all_eq_true.mp words_impl l (mem_tritsL 6 l hl ht))) k hk
/-- The numeral of a number of at most two digits. -/
def ddS (u : Nat) : List UInt8 := if u < 10 then [UInt8.ofNat (48 + u)] else [UInt8.ofNat (48 + u / 10), UInt8.ofNat (48 + u % 10)]
def numS (e : Int) : List UInt8 := if e < 0 then 45 :: ddS e.natAbs else ddS e.toNat
theorem decDigits_ddS (u : Nat) (h : u < 100) : Lib.decDigits u = ddS u := by
  rw [Lib.decDigits]
  unfold ddS
  by_cases c : u < 10
  · rw [dif_pos c, if_pos c]
  · rw [dif_neg c, if_neg c, Lib.decDigits, dif_pos (by omega)]; rfl
theorem itoa_numS (e : Int) (h0 : -99 ≤ e) (h1 : e ≤ 99) : Lib.itoa e = numS e := by
  unfold Lib.itoa numS
  by_cases c : e < 0
  · rw [if_pos c, if_pos c, decDigits_ddS _ (by omega)]
  · rw [if_neg c, if_neg c, decDigits_ddS _ (by omega)]
theorem numS_len (e : Int) : 1 ≤ (numS e).length ∧ (numS e).length ≤ 3 := by
  have h : ∀ u, 1 ≤ (ddS u).length ∧ (ddS u).length ≤ 2 := fun u => by unfold ddS; split <;> simp
  unfold numS
  split
  · have := h e.natAbs; simp only [List.length_cons]; omega
  · have := h e.toNat; omega
/-- The numbers from -20 to 20. -/
def expsL : List Int := (List.range 41).map fun i : Nat => (i : Int) - 20
theorem mem_expsL (e : Int) (h0 : -20 ≤ e) (h1 : e ≤ 20) : e ∈ expsL := by
  unfold expsL
  rw [List.mem_map]
  exact ⟨(e + 20).toNat, List.mem_range.mpr (by omega), by omega⟩
theorem exps_spec : expsL.all (fun e => sameT (spec_l5Number.f 40 e) (numS e)) = true := by decide +kernel
theorem spec_l5Number_f (k : Nat) (e : Int) (hk : 40 ≤ k) (h0 : -20 ≤ e) (h1 : e ≤ 20) : spec_l5Number.f k e = some ⟨(numS e).toArray⟩ :=
  up_of (fun k => spec_l5Number.f k e) (spec_l5Number.mono e) _ 40 (sameT_eq (List.all_eq_true.mp exps_spec e (mem_expsL e h0 h1))) k hk
/-- The text of a floating number. -/
def txtF (l : List Int) (e : Int) : ByteArray := ⟨(txtW l ++ 120 :: numS e).toArray⟩
theorem txtF_join (l : List Int) (e : Int) : ((⟨(txtW l).toArray⟩ : ByteArray) ++ (⟨#[120]⟩ : ByteArray)) ++ (⟨(numS e).toArray⟩ : ByteArray) = txtF l e := by
  apply ByteArray.ext
  unfold txtF
  simp
theorem sizeW (l : List UInt8) : (⟨l.toArray⟩ : ByteArray).size = l.length := by simp [ByteArray.size]
theorem spec_FormatFloat_f (k : Nat) (l : List Int) (e : Int) (hk : 2000001 ≤ k) (hl : l.length ≤ 2000000) : spec_FormatFloat.f k l e = some (if Fl l e then txtF l e else ⟨#[]⟩) := by
  unfold spec_FormatFloat.f
  rw [spec_IsFloat_f k l e hk hl, bsome]
  by_cases h : Fl l e
  · have hn := numS_len e
    rw [if_pos h, if_pos (by simpa using h), spec_FormatWord_f k l (by omega) h.1 h.2.1, bsome, sizeW, txtW_len, h.1, if_pos (by omega), spec_l5Number_f k e (by omega) h.2.2.1 h.2.2.2.1, bsome, if_pos, txtF_join]
    rw [ByteArray.size_append, sizeW, sizeW, sizeW, txtW_len, h.1]
    show 6 + 1 + _ ≤ _
    omega
  · rw [if_neg h, if_neg (by simpa using h)]
theorem impl_FormatFloat_f (k : Nat) (l : List Int) (e : Int) (hk : 2000001 ≤ k) (hl : l.length ≤ 2000000) : impl_FormatFloat.f k l e = some (if Fl l e then txtF l e else ⟨#[]⟩) := by
  unfold impl_FormatFloat.f
  rw [impl_IsFloat_f k l e hk hl, bsome]
  by_cases h : Fl l e
  · have hn := numS_len e
    have h2 := h.2.2.1
    have h3 := h.2.2.2.1
    rw [if_pos h, if_pos (by simpa using h), impl_FormatWord_f k l (by omega) h.1 h.2.1, bsome, sizeW, txtW_len, h.1, if_pos (by omega)]
    unfold strconv_Itoa.f
    rw [if_pos (by omega), bsome, itoa_numS e (by omega) (by omega), if_pos, txtF_join]
    rw [ByteArray.size_append, sizeW, sizeW, sizeW, txtW_len, h.1]
    show 6 + 1 + _ ≤ _
    omega
  · rw [if_neg h, if_neg (by simpa using h)]
end FnExactFormatFloatParts
open FnExactFormatFloatParts
attribute [local congr] bind_left

theorem FnExactFormatFloat : laws_FnExactFormatFloat.Pure := by
  intro l e hl _
  obtain ⟨K, hK⟩ : ∃ K, 100000000 ≤ K := ⟨_, Nat.le_refl _⟩
  refine ⟨K + 4, ?_⟩
  unfold laws_FnExactFormatFloat.f
  rw [laws_szFloating_f l e _ hl.1 (by omega) (by omega), bsome]
  by_cases h : (1048576 : Int) < (l.length : Int)
  · rw [if_pos h, if_pos (by omega)]
  rw [if_neg h, if_neg (by omega)]
  have f := fun k (hk : 2000001 ≤ k) => impl_FormatFloat_f k l e hk (by omega)
  have g := fun k (hk : 2000001 ≤ k) => spec_FormatFloat_f k l e hk (by omega)
  generalize (if Fl l e then txtF l e else ⟨#[]⟩) = r at *
  simp (disch := omega) only [↓if_pos, ↓if_neg, ↓reduceIte, bsome, laws_toFloating_f, f, g, laws_eqFloating_same]

end Go.Proofs.YtffhddibgfaopaaDoor.Pure
