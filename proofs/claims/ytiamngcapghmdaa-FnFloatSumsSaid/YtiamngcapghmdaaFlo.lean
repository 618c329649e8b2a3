/- Plain facts on floating numbers of six digits; no program is in sight, and no condition is set on any claim. -/
import Derived.Test.YtiamngcapghmdaaTern
namespace Go.Proofs.Ytiamngcapghmdaa.Tern
/-- How many digits a number has, without zeros at the top. -/
def len3 (n : Int) : Nat := if h : n = 0 then 0 else len3 (rest3 n) + 1
  termination_by n.natAbs
  decreasing_by unfold rest3; omega
theorem len3_zero : len3 0 = 0 := by rw [len3]; simp
theorem len3_step {n : Int} (h : n ≠ 0) : len3 n = len3 (rest3 n) + 1 := by rw [len3]; simp [h]
theorem len3_le : ∀ (k : Nat) (n : Int), -lim k ≤ n → n ≤ lim k → len3 n ≤ k
  | 0, n, h0, h1 => by
    have : n = 0 := by simp only [lim] at h0 h1; omega
    subst this; rw [len3_zero]; omega
  | k + 1, n, h0, h1 => by
    by_cases h : n = 0
    · subst h; rw [len3_zero]; omega
    · rw [len3_step h]
      have := len3_le k (rest3 n) (by simp only [lim] at h0; unfold rest3; omega) (by simp only [lim] at h1; unfold rest3; omega)
      omega
theorem len3_bd (n : Int) : -lim (len3 n) ≤ n ∧ n ≤ lim (len3 n) := by
  by_cases h : n = 0
  · subst h; have := lim_nonneg (len3 0); omega
  · have ih := len3_bd (rest3 n)
    rw [len3_step h]
    simp only [lim]
    unfold rest3 at ih ⊢
    omega
  termination_by n.natAbs
  decreasing_by unfold rest3; omega
/-- The number of digits is the one that fits and not one less. -/
theorem len3_of {n : Int} {k : Nat} (h0 : -lim (k + 1) ≤ n) (h1 : n ≤ lim (k + 1)) (h : n < -lim k ∨ lim k < n) : len3 n = k + 1 := by
  have a := len3_le (k + 1) n h0 h1
  have b := len3_bd n
  rcases Nat.lt_or_ge (len3 n) (k + 1) with c | c
  · have := lim_mono (show len3 n ≤ k by omega)
    omega
  · omega
theorem len3_gt {n : Int} {k : Nat} (h : k < len3 n) : n < -lim k ∨ lim k < n := by
  rcases Int.lt_or_le n (-lim k) with a | a
  · exact .inl a
  · rcases Int.lt_or_le (lim k) n with b | b
    · exact .inr b
    · have := len3_le k n a b; omega
theorem len3_pos {n : Int} (h : n ≠ 0) : 0 < len3 n := by rw [len3_step h]; omega
theorem len3_neg (n : Int) : len3 (-n) = len3 n := by
  by_cases h : n = 0
  · subst h; rfl
  · obtain ⟨k, hk⟩ : ∃ k, len3 n = k + 1 := ⟨len3 n - 1, by have := len3_pos h; omega⟩
    have b := len3_bd n
    have c := len3_gt (n := n) (k := k) (by omega)
    rw [hk] at b
    rw [hk]
    exact len3_of (by omega) (by omega) (by omega)
theorem len3_pow (v : Int) (h : v ≠ 0) : ∀ k : Nat, len3 (v * pow3 k) = len3 v + k
  | 0 => by simp [pow3]
  | k + 1 => by
    have ih := len3_pow v h k
    have hp := pow3_pos k
    have e : v * pow3 (k + 1) = 3 * (v * pow3 k) := by rw [pow3]; rw [← Int.mul_assoc, Int.mul_comm v 3, Int.mul_assoc]
    have hne : v * pow3 k ≠ 0 := Int.mul_ne_zero h (by omega)
    rw [e, len3_step (by omega), show rest3 (3 * (v * pow3 k)) = v * pow3 k by unfold rest3; omega, ih]
    omega

/-- What the parts of a word's number are. -/
theorem word_append (x y : Int) (m : Nat) : ∀ k : Nat, -lim k ≤ y → y ≤ lim k → word (y + x * pow3 k) (k + m) = word y k ++ word x m := by
  intro k h0 h1
  have e := word_val (word y k ++ word x m) (Trits.append (trits_word _ _) (trits_word _ _))
  rw [val_append, length_word, List.length_append, length_word, length_word, val_word k y h0 h1] at e
  obtain ⟨q, hq⟩ := word_mod m x
  have e2 : word (y + x * pow3 k) (k + m) = word (y + pow3 k * val (word x m)) (k + m) := by
    apply val_inj (trits_word _ _) (trits_word _ _) (by simp [length_word])
    obtain ⟨a, ha⟩ := word_mod (k + m) (y + x * pow3 k)
    obtain ⟨b, hb⟩ := word_mod (k + m) (y + pow3 k * val (word x m))
    have l1 := val_bd _ (trits_word (y + x * pow3 k) (k + m))
    have l2 := val_bd _ (trits_word (y + pow3 k * val (word x m)) (k + m))
    rw [length_word] at l1 l2
    have hp := pow3_lim (k + m)
    have hd : x * pow3 k = pow3 k * val (word x m) + pow3 (k + m) * q := by
      rw [pow3_add]
      conv => lhs; rw [hq]
      rw [Int.add_mul, Int.mul_comm (val (word x m)), Int.mul_comm (pow3 m * q), Int.mul_assoc]
    have key : val (word (y + x * pow3 k) (k + m)) - val (word (y + pow3 k * val (word x m)) (k + m)) = pow3 (k + m) * (b + q - a) := by
      rw [Int.mul_sub, Int.mul_add]; omega
    have hpp := pow3_pos (k + m)
    have z : b + q - a = 0 := by
      rcases Int.lt_trichotomy (b + q - a) 0 with h | h | h
      · have : pow3 (k + m) * (b + q - a) ≤ pow3 (k + m) * (-1) := Int.mul_le_mul_of_nonneg_left (by omega) (by omega)
        omega
      · exact h
      · have : pow3 (k + m) * 1 ≤ pow3 (k + m) * (b + q - a) := Int.mul_le_mul_of_nonneg_left (by omega) (by omega)
        omega
    rw [z] at key
    omega
  rw [e2, e]

/-- A number of floating digits: six digits at most, the highest ones, and the exponent. -/
def digs (v : Int) : List Int := (List.replicate 6 0 ++ word v (len3 v)).drop (len3 v)
def flo (v e : Int) : List Int × Int × Bool :=
  if v = 0 then (List.replicate 6 0, 0, true)
  else if -20 ≤ e + len3 v - 6 ∧ e + len3 v - 6 ≤ 20 then (digs v, e + len3 v - 6, true) else ([], 0, false)
theorem word_zero : ∀ k : Nat, word 0 k = List.replicate k 0
  | 0 => rfl
  | k + 1 => by
    rw [word, show low3 0 = 0 by decide, show rest3 0 = 0 by decide, word_zero k]; rfl
theorem digs_pow (v : Int) (h : v ≠ 0) (k : Nat) : digs (v * pow3 k) = digs v := by
  unfold digs
  rw [len3_pow v h k]
  have e := word_append v 0 (len3 v) k (by have := lim_nonneg k; omega) (lim_nonneg k)
  rw [Int.zero_add, word_zero] at e
  rw [show len3 v + k = k + len3 v by omega, e, ← List.append_assoc, ← List.replicate_append_replicate.symm, show 6 + k = k + 6 by omega, ← List.replicate_append_replicate, List.append_assoc, ← List.drop_drop]
  congr 1
  rw [List.drop_append_of_le_length (by simp), List.drop_of_length_le (by simp), List.nil_append]
theorem flo_pow (v e : Int) (k : Nat) : flo (v * pow3 k) e = flo v (e + k) := by
  by_cases h : v = 0
  · subst h; rw [Int.zero_mul]; rfl
  · have hne : v * pow3 k ≠ 0 := Int.mul_ne_zero h (by have := pow3_pos k; omega)
    unfold flo
    rw [if_neg h, if_neg hne, digs_pow v h, len3_pow v h]
    rw [show e + ((len3 v + k : Nat) : Int) - 6 = e + (k : Int) + (len3 v : Int) - 6 by omega]
/-- What lies wholly below the lowest digit of six does not count. -/
theorem flo_below (x y e : Int) (k : Nat) (hk : 6 ≤ k) (hx : len3 x = 6) (h0 : -lim 6 ≤ y) (h1 : y ≤ lim 6) : flo (y + x * pow3 k) e = flo x (e + k) := by
  have hl6 := lim_mono hk
  have hx0 : x ≠ 0 := by intro h; subst h; rw [len3_zero] at hx; omega
  have hb := len3_bd x
  have hg := len3_gt (n := x) (k := 5) (by omega)
  rw [hx] at hb
  have hp := pow3_lim k
  have l5 : lim 5 = 121 := by decide
  have l6 : lim 6 = 364 := by decide
  have hlen : len3 (y + x * pow3 k) = 5 + k + 1 := by
    have a1 := lim_mul k 6
    have a2 := lim_mul k 5
    rw [show 5 + k + 1 = k + 6 by omega]
    rw [l6] at a1 hb
    rw [l5] at a2 hg
    have hlk := lim_nonneg k
    have b1 : x * pow3 k ≤ 364 * pow3 k := Int.mul_le_mul_of_nonneg_right hb.2 (by omega)
    have b2 : -364 * pow3 k ≤ x * pow3 k := Int.mul_le_mul_of_nonneg_right hb.1 (by omega)
    refine len3_of (k := k + 5) ?_ ?_ ?_
    · rw [show k + 5 + 1 = k + 6 by omega]; omega
    · rw [show k + 5 + 1 = k + 6 by omega]; omega
    · rcases hg with hg | hg
      · left
        have : x * pow3 k ≤ (-122) * pow3 k := Int.mul_le_mul_of_nonneg_right (by omega) (by omega)
        omega
      · right
        have : 122 * pow3 k ≤ x * pow3 k := Int.mul_le_mul_of_nonneg_right (by omega) (by omega)
        omega
  have hne : y + x * pow3 k ≠ 0 := by intro h; rw [h, len3_zero] at hlen; omega
  unfold flo
  rw [if_neg hne, if_neg hx0, hlen, hx]
  rw [show e + ((5 + k + 1 : Nat) : Int) - 6 = e + (k : Int) + ((6 : Nat) : Int) - 6 by omega]
  have ed : digs (y + x * pow3 k) = digs x := by
    unfold digs
    rw [hlen, hx, show 5 + k + 1 = k + 6 by omega, word_append x y 6 k (by omega) (by omega)]
    rw [← List.append_assoc, List.drop_left' (by simp [length_word]), List.drop_left' (by simp)]
  rw [ed]
/-- The digits without the zeros at the top. -/
def tops : List Int → Nat
  | [] => 0
  | a :: w => if tops w = 0 then (if a = 0 then 0 else 1) else tops w + 1
theorem tops_le : ∀ w : List Int, tops w ≤ w.length
  | [] => Nat.le_refl _
  | a :: w => by
    have := tops_le w
    simp only [tops, List.length_cons]
    split
    · split <;> omega
    · omega
theorem val_tops (w : List Int) : val (w.take (tops w)) = val w ∧ (tops w = 0 → val w = 0) := by
  induction w with
  | nil => exact ⟨rfl, fun _ => rfl⟩
  | cons a w ih =>
    simp only [tops]
    by_cases h : tops w = 0
    · have hw := ih.2 h
      rw [if_pos h]
      by_cases ha : a = 0
      · subst ha
        rw [if_pos rfl]
        simp [val, hw]
      · rw [if_neg ha]
        simp [val, hw]
    · rw [if_neg h]
      rw [List.take_succ_cons]
      simp only [val, ih.1, true_and]
      intro h; omega
theorem tops_len3 (w : List Int) (ht : Trits w) : len3 (val w) = tops w := by
  induction w with
  | nil => exact len3_zero
  | cons a w ih =>
    obtain ⟨ta, tw⟩ := Trits.cons.1 ht
    have ih := ih tw
    by_cases h0 : val (a :: w) = 0
    · rw [h0, len3_zero]
      have e1 : a = 0 := by simp only [val] at h0; unfold Trit at ta; omega
      have e2 : val w = 0 := by simp only [val] at h0; omega
      rw [e2, len3_zero] at ih
      simp [tops, ← ih, e1]
    · rw [len3_step h0]
      have : rest3 (val (a :: w)) = val w := by simp only [val]; exact rest3_of ta
      rw [this, ih]
      simp only [tops]
      split
      · rename_i hz
        split
        · rename_i ha
          exact absurd (by simp only [val, ha, (val_tops w).2 hz]; rfl) h0
        · omega
      · rfl
theorem take_tops (w : List Int) (ht : Trits w) : w.take (tops w) = word (val w) (len3 (val w)) := by
  have e := word_val (w.take (tops w)) (ht.take _)
  rw [(val_tops w).1, List.length_take, Nat.min_eq_left (tops_le w)] at e
  rw [tops_len3 w ht, e]

theorem val_zero_rep {w : List Int} (ht : Trits w) (h : val w = 0) : w = List.replicate w.length 0 := by
  have := word_val w ht
  rw [h, word_zero] at this
  exact this.symm
theorem digs_len (v : Int) : (digs v).length = 6 := by
  unfold digs
  simp only [List.length_drop, List.length_append, List.length_replicate, length_word]
  omega
theorem digs_trits (v : Int) : Trits (digs v) := by
  unfold digs
  refine Trits.drop (Trits.append ?_ (trits_word _ _)) _
  intro a ha
  rw [(List.mem_replicate.1 ha).2]
  decide
/-- A floating number that is valid: six digits, the highest one not 0; or all of 0. -/
def Fl (d : List Int) (e : Int) : Prop := d.length = 6 ∧ Trits d ∧ -20 ≤ e ∧ e ≤ 20 ∧ (d.getD 5 0 ≠ 0 ∨ (val d = 0 ∧ e = 0))
instance (d : List Int) (e : Int) : Decidable (Fl d e) := by unfold Fl; exact inferInstance
theorem tops_of_last (w : List Int) (n : Nat) (hl : w.length = n + 1) (h : w.getD n 0 ≠ 0) : tops w = n + 1 := by
  induction w generalizing n with
  | nil => simp at hl
  | cons a w ih =>
    cases n with
    | zero =>
      have : w = [] := List.length_eq_zero_iff.1 (by simpa using hl)
      subst this
      have ha : a ≠ 0 := by simpa using h
      simp [tops, ha]
    | succ n =>
      have e := ih n (by simpa using hl) (by simpa using h)
      simp [tops, e]
theorem tops_last (w : List Int) (n : Nat) (h : tops w = n + 1) : w.getD n 0 ≠ 0 := by
  induction w generalizing n with
  | nil => simp [tops] at h
  | cons a w ih =>
    simp only [tops] at h
    split at h
    · rename_i hz
      split at h
      · omega
      · rename_i ha
        obtain rfl : n = 0 := by omega
        simpa using ha
    · obtain ⟨m, rfl⟩ : ∃ m, n = m + 1 := ⟨n - 1, by omega⟩
      have := ih m (by omega)
      simpa using this
theorem Fl.zero_or {d : List Int} {e : Int} (h : Fl d e) : (val d = 0 ∧ d = List.replicate 6 0 ∧ e = 0) ∨ (val d ≠ 0 ∧ len3 (val d) = 6 ∧ digs (val d) = d) := by
  obtain ⟨h1, h2, h3, h4, h5⟩ := h
  by_cases hv : val d = 0
  · left
    have e1 := val_zero_rep h2 hv
    rw [h1] at e1
    refine ⟨hv, e1, ?_⟩
    rcases h5 with h5 | h5
    · rw [e1] at h5; exact absurd rfl h5
    · exact h5.2
  · right
    have h5 : d.getD 5 0 ≠ 0 := by rcases h5 with h5 | h5; exact h5; exact absurd h5.1 hv
    have ht := tops_of_last d 5 h1 h5
    have hl : len3 (val d) = 6 := by rw [tops_len3 d h2, ht]
    refine ⟨hv, hl, ?_⟩
    unfold digs
    rw [hl, List.drop_left' (by simp), show (6 : Nat) = d.length from h1.symm, word_val d h2]
theorem Fl.flo {d : List Int} {e : Int} (h : Fl d e) : flo (val d) e = (d, e, true) := by
  have hr := h.2.2
  rcases h.zero_or with ⟨a, b, c⟩ | ⟨a, b, c⟩
  · unfold Tern.flo; rw [if_pos a, b, c]
  · unfold Tern.flo; rw [if_neg a, b, if_pos (by omega), c]
    simp
theorem flo_Fl {v e : Int} (h : (flo v e).2.2 = true) : Fl (flo v e).1 (flo v e).2.1 := by
  unfold flo at *
  by_cases hv : v = 0
  · rw [if_pos hv]
    exact ⟨by simp, fun a ha => by rw [(List.mem_replicate.1 ha).2]; decide, by decide, by decide, .inr ⟨by decide, rfl⟩⟩
  · rw [if_neg hv] at *
    by_cases hb : -20 ≤ e + len3 v - 6 ∧ e + len3 v - 6 ≤ 20
    · rw [if_pos hb]
      refine ⟨digs_len v, digs_trits v, hb.1, hb.2, .inl ?_⟩
      show (digs v).getD 5 0 ≠ 0
      have hp := len3_pos hv
      obtain ⟨t, ht⟩ : ∃ t, len3 v = t + 1 := ⟨len3 v - 1, by omega⟩
      have e1 : (digs v).getD 5 0 = (word v (len3 v)).getD t 0 := by
        unfold digs
        simp only [List.getD_eq_getElem?_getD, List.getElem?_drop]
        rw [List.getElem?_append_right (by simp; omega)]
        simp
        congr 2
        omega
      rw [e1]
      apply tops_last
      have e2 : val (word v (len3 v)) = v := val_word _ v (len3_bd v).1 (len3_bd v).2
      rw [← tops_len3 _ (trits_word _ _), e2, ht]
    · rw [if_neg hb] at h
      exact absurd h (by simp)
theorem flo_not {v e : Int} (h : (flo v e).2.2 = false) : flo v e = ([], 0, false) := by
  unfold flo at *
  by_cases hv : v = 0
  · rw [if_pos hv] at h; exact absurd h (by simp)
  · rw [if_neg hv] at *
    by_cases hb : -20 ≤ e + len3 v - 6 ∧ e + len3 v - 6 ≤ 20
    · rw [if_pos hb] at h; exact absurd h (by simp)
    · rw [if_neg hb]
theorem flo_len (v e : Int) : (flo v e).1.length ≤ 6 := by
  unfold flo
  split
  · simp
  · split
    · exact Nat.le_of_eq (digs_len v)
    · simp
theorem word_neg (k : Nat) : ∀ v : Int, word (-v) k = (word v k).map (fun x => -x) := by
  induction k with
  | zero => intro v; rfl
  | succ k ih =>
    intro v
    rw [word, word, List.map_cons, ← ih, show low3 (-v) = -low3 v by unfold low3; omega, show rest3 (-v) = -rest3 v by unfold rest3; omega]
theorem digs_neg (v : Int) : digs (-v) = (digs v).map (fun x => -x) := by
  unfold digs
  rw [len3_neg, word_neg, List.map_drop, List.map_append]
  rfl
theorem flo_neg (v e : Int) : flo (-v) e = ((flo v e).1.map (fun x => -x), (flo v e).2.1, (flo v e).2.2) := by
  unfold flo
  by_cases hv : v = 0
  · subst hv; rfl
  · rw [if_neg hv, if_neg (by omega), len3_neg, digs_neg]
    split
    · rfl
    · rfl

/-- The exact sum of two floating numbers, at the least exponent. -/
def sumF (x ea y eb : Int) : Int := x * pow3 (ea + 20).toNat + y * pow3 (eb + 20).toNat
/-- Two numbers brought to one exponent; what lies below the other one's digits counts as 0. -/
def near (x ea y eb : Int) : Int × Int × Int :=
  if x = 0 then (0, y, eb) else if y = 0 then (x, 0, ea) else if 6 ≤ ea - eb then (x, 0, ea) else if 6 ≤ eb - ea then (0, y, eb)
  else (x * pow3 (ea - mn3 ea eb).toNat, y * pow3 (eb - mn3 ea eb).toNat, mn3 ea eb)
  where mn3 (a b : Int) : Int := if a ≤ b then a else b
theorem pow3_toNat (a b : Int) (h0 : 0 ≤ a) (h1 : 0 ≤ b) : pow3 (a + b).toNat = pow3 a.toNat * pow3 b.toNat := by
  rw [← pow3_add]; congr 1; omega
theorem flo_powI (v e a : Int) (h : 0 ≤ a) : flo (v * pow3 a.toNat) e = flo v (e + a) := by rw [flo_pow]; congr 1; omega
theorem sumF_comm (x ea y eb : Int) : sumF x ea y eb = sumF y eb x ea := by unfold sumF; omega
theorem near_sum {a b : List Int} {ea eb : Int} (ha : Fl a ea) (hb : Fl b eb) :
    flo ((near (val a) ea (val b) eb).1 + (near (val a) ea (val b) eb).2.1) (near (val a) ea (val b) eb).2.2 = flo (sumF (val a) ea (val b) eb) (-20) := by
  have ra := ha.2.2
  have rb := hb.2.2
  have za := ha.zero_or
  have zb := hb.zero_or
  have la := val_bd a ha.2.1
  have lb := val_bd b hb.2.1
  rw [ha.1] at la
  rw [hb.1] at lb
  generalize val a = x at *
  generalize val b = y at *
  unfold near
  by_cases hx : x = 0
  · subst hx
    rw [if_pos rfl]
    show flo (0 + y) eb = flo (0 * _ + y * _) _
    rw [Int.zero_add, Int.zero_mul, Int.zero_add, flo_powI _ _ _ (by omega)]; congr 1; omega
  rw [if_neg hx]
  by_cases hy : y = 0
  · subst hy
    rw [if_pos rfl]
    show flo (x + 0) ea = flo (x * _ + 0 * _) _
    rw [Int.add_zero, Int.zero_mul, Int.add_zero, flo_powI _ _ _ (by omega)]; congr 1; omega
  rw [if_neg hy]
  by_cases h1 : 6 ≤ ea - eb
  · rw [if_pos h1]
    have e : sumF x ea y eb = (y + x * pow3 (ea - eb).toNat) * pow3 (eb + 20).toNat := by
      unfold sumF
      rw [show ea + 20 = (ea - eb) + (eb + 20) by omega, pow3_toNat _ _ (by omega) (by omega), Int.add_mul, Int.mul_assoc]; omega
    show flo (x + 0) ea = _
    rw [Int.add_zero, e, flo_powI _ _ _ (by omega), flo_below x y _ _ (by omega) (by rcases za with z | z; exact absurd z.1 hx; exact z.2.1) (by omega) (by omega)]; congr 1; omega
  rw [if_neg h1]
  by_cases h2 : 6 ≤ eb - ea
  · rw [if_pos h2]
    have e : sumF x ea y eb = (x + y * pow3 (eb - ea).toNat) * pow3 (ea + 20).toNat := by
      unfold sumF
      rw [show eb + 20 = (eb - ea) + (ea + 20) by omega, pow3_toNat (eb - ea) (ea + 20) (by omega) (by omega), Int.add_mul, Int.mul_assoc]
    show flo (0 + y) eb = _
    rw [Int.zero_add, e, flo_powI _ _ _ (by omega), flo_below y x _ _ (by omega) (by rcases zb with z | z; exact absurd z.1 hy; exact z.2.1) (by omega) (by omega)]; congr 1; omega
  rw [if_neg h2]
  have hm : near.mn3 ea eb ≤ ea ∧ near.mn3 ea eb ≤ eb ∧ -20 ≤ near.mn3 ea eb := by unfold near.mn3; split <;> omega
  generalize near.mn3 ea eb = m at *
  have e : sumF x ea y eb = (x * pow3 (ea - m).toNat + y * pow3 (eb - m).toNat) * pow3 (m + 20).toNat := by
    unfold sumF
    rw [show ea + 20 = (ea - m) + (m + 20) by omega, show eb + 20 = (eb - m) + (m + 20) by omega, pow3_toNat _ _ (by omega) (by omega), pow3_toNat (eb - m) _ (by omega) (by omega), Int.add_mul, Int.mul_assoc, Int.mul_assoc]
  rw [e, flo_powI _ _ _ (by omega)]
  show flo _ m = _
  congr 1; omega
theorem sg_pow (v : Int) (k : Nat) : sg (v * pow3 k) = sg v := by
  have hp := pow3_pos k
  unfold sg
  by_cases h : v < 0
  · rw [if_pos h, if_pos (Int.mul_neg_of_neg_of_pos h hp)]
  · by_cases h2 : 0 < v
    · have := Int.mul_pos h2 hp
      rw [if_neg h, if_pos h2, if_neg (by omega), if_pos this]
    · have : v = 0 := by omega
      subst this; rw [Int.zero_mul]
theorem sg_below (x y : Int) (k : Nat) (hk : 6 ≤ k) (hx : len3 x = 6) (h0 : -lim 6 ≤ y) (h1 : y ≤ lim 6) : sg (y + x * pow3 k) = sg x := by
  have hg := len3_gt (n := x) (k := 5) (by omega)
  have hl := lim_mono hk
  have hp := pow3_lim k
  have l5 : lim 5 = 121 := by decide
  have l6 : lim 6 = 364 := by decide
  rw [l5] at hg
  rw [l6] at h0 h1 hl
  unfold sg
  rcases hg with hg | hg
  · have : x * pow3 k ≤ (-122) * pow3 k := Int.mul_le_mul_of_nonneg_right (by omega) (by omega)
    rw [if_pos (by omega), if_pos (by omega)]
  · have : 122 * pow3 k ≤ x * pow3 k := Int.mul_le_mul_of_nonneg_right (by omega) (by omega)
    rw [if_neg (by omega), if_pos (by omega), if_neg (by omega), if_pos (by omega)]
theorem near_sg {a b : List Int} {ea eb : Int} (ha : Fl a ea) (hb : Fl b eb) :
    sg ((near (val a) ea (val b) eb).1 + (near (val a) ea (val b) eb).2.1) = sg (sumF (val a) ea (val b) eb) := by
  have ra := ha.2.2
  have rb := hb.2.2
  have za := ha.zero_or
  have zb := hb.zero_or
  have la := val_bd a ha.2.1
  have lb := val_bd b hb.2.1
  rw [ha.1] at la
  rw [hb.1] at lb
  generalize val a = x at *
  generalize val b = y at *
  unfold near
  by_cases hx : x = 0
  · subst hx
    rw [if_pos rfl]
    show sg (0 + y) = sg (0 * _ + y * _)
    rw [Int.zero_add, Int.zero_mul, Int.zero_add, sg_pow]
  rw [if_neg hx]
  by_cases hy : y = 0
  · subst hy
    rw [if_pos rfl]
    show sg (x + 0) = sg (x * _ + 0 * _)
    rw [Int.add_zero, Int.zero_mul, Int.add_zero, sg_pow]
  rw [if_neg hy]
  by_cases h1 : 6 ≤ ea - eb
  · rw [if_pos h1]
    have e : sumF x ea y eb = (y + x * pow3 (ea - eb).toNat) * pow3 (eb + 20).toNat := by
      unfold sumF
      rw [show ea + 20 = (ea - eb) + (eb + 20) by omega, pow3_toNat _ _ (by omega) (by omega), Int.add_mul, Int.mul_assoc]; omega
    show sg (x + 0) = _
    rw [Int.add_zero, e, sg_pow, sg_below x y _ (by omega) (by rcases za with z | z; exact absurd z.1 hx; exact z.2.1) (by omega) (by omega)]
  rw [if_neg h1]
  by_cases h2 : 6 ≤ eb - ea
  · rw [if_pos h2]
    have e : sumF x ea y eb = (x + y * pow3 (eb - ea).toNat) * pow3 (ea + 20).toNat := by
      unfold sumF
      rw [show eb + 20 = (eb - ea) + (ea + 20) by omega, pow3_toNat (eb - ea) (ea + 20) (by omega) (by omega), Int.add_mul, Int.mul_assoc]
    show sg (0 + y) = _
    rw [Int.zero_add, e, sg_pow, sg_below y x _ (by omega) (by rcases zb with z | z; exact absurd z.1 hy; exact z.2.1) (by omega) (by omega)]
  rw [if_neg h2]
  have hm : near.mn3 ea eb ≤ ea ∧ near.mn3 ea eb ≤ eb ∧ -20 ≤ near.mn3 ea eb := by unfold near.mn3; split <;> omega
  generalize near.mn3 ea eb = m at *
  have e : sumF x ea y eb = (x * pow3 (ea - m).toNat + y * pow3 (eb - m).toNat) * pow3 (m + 20).toNat := by
    unfold sumF
    rw [show ea + 20 = (ea - m) + (m + 20) by omega, show eb + 20 = (eb - m) + (m + 20) by omega, pow3_toNat _ _ (by omega) (by omega), pow3_toNat (eb - m) _ (by omega) (by omega), Int.add_mul, Int.mul_assoc, Int.mul_assoc]
  rw [e, sg_pow]
theorem near_bd {a b : List Int} {ea eb : Int} (ha : Fl a ea) (hb : Fl b eb) :
    (-88452 ≤ (near (val a) ea (val b) eb).1 ∧ (near (val a) ea (val b) eb).1 ≤ 88452) ∧ (-88452 ≤ (near (val a) ea (val b) eb).2.1 ∧ (near (val a) ea (val b) eb).2.1 ≤ 88452) ∧ -20 ≤ (near (val a) ea (val b) eb).2.2 ∧ (near (val a) ea (val b) eb).2.2 ≤ 20 := by
  have ra := ha.2.2
  have rb := hb.2.2
  have la := val_bd a ha.2.1
  have lb := val_bd b hb.2.1
  rw [ha.1, show lim 6 = 364 by decide] at la
  rw [hb.1, show lim 6 = 364 by decide] at lb
  generalize val a = x at *
  generalize val b = y at *
  unfold near
  split
  · dsimp only; omega
  split
  · dsimp only; omega
  split
  · dsimp only; omega
  split
  · dsimp only; omega
  have hm : near.mn3 ea eb ≤ ea ∧ near.mn3 ea eb ≤ eb ∧ -20 ≤ near.mn3 ea eb ∧ near.mn3 ea eb ≤ 20 ∧ (near.mn3 ea eb = ea ∨ near.mn3 ea eb = eb) := by unfold near.mn3; split <;> omega
  generalize near.mn3 ea eb = m at *
  have hp : ∀ k : Nat, k ≤ 5 → 1 ≤ pow3 k ∧ pow3 k ≤ 243 := fun k hk => ⟨by have := pow3_pos k; omega, by have := pow3_mono hk; rw [show pow3 5 = 243 by decide] at this; exact this⟩
  have p1 := hp (ea - m).toNat (by omega)
  have p2 := hp (eb - m).toNat (by omega)
  have m1 := mul_le (x := x) (y := pow3 (ea - m).toNat) (a := 364) (b := 243) (by omega) (by omega)
  have m2 := mul_le (x := y) (y := pow3 (eb - m).toNat) (a := 364) (b := 243) (by omega) (by omega)
  dsimp only
  omega

/-- The number that is left of v when six digits are kept. -/
def kept (v : Int) : Int := if len3 v ≤ 6 then v else val (digs v) * pow3 (len3 v - 6)
theorem val_reps : ∀ n : Nat, val (List.replicate n 0) = 0
  | 0 => rfl
  | n + 1 => by rw [List.replicate_succ, val, val_reps n]; rfl
theorem digs_small (v : Int) (h : len3 v ≤ 6) : val (digs v) = v * pow3 (6 - len3 v) := by
  unfold digs
  rw [List.drop_append_of_le_length (by simpa using h), List.drop_replicate, val_append, val_reps, List.length_replicate, val_word _ v (len3_bd v).1 (len3_bd v).2, Int.zero_add, Int.mul_comm]
theorem digs_big (v : Int) (h : 6 < len3 v) : ∃ l, v = l + val (digs v) * pow3 (len3 v - 6) ∧ -lim (len3 v - 6) ≤ l ∧ l ≤ lim (len3 v - 6) := by
  have hl : (word v (len3 v)).length = len3 v := length_word _ _
  have e : digs v = (word v (len3 v)).drop (len3 v - 6) := by
    unfold digs
    rw [List.drop_append, List.drop_of_length_le (by simp; omega), List.nil_append, List.length_replicate]
  have e2 := val_append ((word v (len3 v)).take (len3 v - 6)) ((word v (len3 v)).drop (len3 v - 6))
  rw [List.take_append_drop, val_word _ v (len3_bd v).1 (len3_bd v).2, ← e, List.length_take, hl, Nat.min_eq_left (by omega)] at e2
  have hb := val_bd ((word v (len3 v)).take (len3 v - 6)) ((trits_word _ _).take _)
  rw [List.length_take, hl, Nat.min_eq_left (by omega)] at hb
  exact ⟨_, e2.trans (by rw [Int.mul_comm (val (digs v))]), hb⟩
theorem digs_top (v : Int) (h : v ≠ 0) : ((0 < v → 122 ≤ val (digs v)) ∧ (v < 0 → val (digs v) ≤ -122)) ∧ -364 ≤ val (digs v) ∧ val (digs v) ≤ 364 := by
  have hb := val_bd (digs v) (digs_trits v)
  rw [digs_len, show lim 6 = 364 by decide] at hb
  refine ⟨?_, hb⟩
  have hf : Fl (digs v) 0 := by
    have := flo_Fl (v := v) (e := 6 - len3 v) (by unfold flo; rw [if_neg h, if_pos (by omega)])
    unfold flo at this
    rw [if_neg h, if_pos (by omega)] at this
    rw [show (6 : Int) - len3 v + len3 v - 6 = 0 by omega] at this
    exact this
  have h6 : len3 (val (digs v)) = 6 := by
    have hp := hf.2.2.2.2
    have ht : (digs v).getD 5 0 ≠ 0 := by
      rcases hp with hp | ⟨hp, _⟩
      · exact hp
      · exfalso
        by_cases hs : len3 v ≤ 6
        · have := digs_small v hs
          rw [hp] at this
          rcases Int.mul_eq_zero.1 this.symm with z | z
          · exact h z
          · have := pow3_pos (6 - len3 v); omega
        · obtain ⟨l, e, h0, h1⟩ := digs_big v (by omega)
          rw [hp, Int.zero_mul, Int.add_zero] at e
          have := len3_le (len3 v - 6) v (by omega) (by omega)
          omega
    rw [tops_len3 _ (digs_trits v), tops_of_last _ 5 (digs_len v) ht]
  have hg := len3_gt (n := val (digs v)) (k := 5) (by omega)
  rw [show lim 5 = 121 by decide] at hg
  by_cases hs : len3 v ≤ 6
  · have e := digs_small v hs
    have hp := pow3_pos (6 - len3 v)
    refine ⟨fun hv => ?_, fun hv => ?_⟩
    · have := Int.mul_pos hv hp; omega
    · have := Int.mul_neg_of_neg_of_pos hv hp; omega
  · obtain ⟨l, e, h0, h1⟩ := digs_big v (by omega)
    have hp := pow3_lim (len3 v - 6)
    have hn := lim_nonneg (len3 v - 6)
    refine ⟨fun hv => ?_, fun hv => ?_⟩
    · rcases hg with hg | hg
      · have : val (digs v) * pow3 (len3 v - 6) ≤ (-122) * pow3 (len3 v - 6) := Int.mul_le_mul_of_nonneg_right (by omega) (by omega)
        omega
      · omega
    · rcases hg with hg | hg
      · omega
      · have : 122 * pow3 (len3 v - 6) ≤ val (digs v) * pow3 (len3 v - 6) := Int.mul_le_mul_of_nonneg_right (by omega) (by omega)
        omega
theorem lim_split (q m : Nat) : lim (q + m) = lim m * pow3 q + lim q := by
  have := lim_mul q m
  have hp := pow3_lim q
  rw [this, hp, Int.mul_add, Int.mul_one]
  have e : lim m * (2 * lim q) = 2 * (lim q * lim m) := by rw [Int.mul_comm, Int.mul_assoc]
  omega
theorem kept_bd (v : Int) : (-lim (len3 v) ≤ kept v ∧ kept v ≤ lim (len3 v)) ∧ (0 < v → lim (len3 v - 1) < kept v) ∧ (v < 0 → kept v < -lim (len3 v - 1)) := by
  unfold kept
  by_cases hs : len3 v ≤ 6
  · rw [if_pos hs]
    refine ⟨len3_bd v, fun hv => ?_, fun hv => ?_⟩
    · have hp := len3_pos (n := v) (by omega)
      have := len3_gt (n := v) (k := len3 v - 1) (by omega)
      have := lim_nonneg (len3 v - 1); omega
    · have hp := len3_pos (n := v) (by omega)
      have := len3_gt (n := v) (k := len3 v - 1) (by omega)
      have := lim_nonneg (len3 v - 1); omega
  · rw [if_neg hs]
    have hv0 : v ≠ 0 := by intro h; subst h; rw [len3_zero] at hs; omega
    obtain ⟨⟨t1, t2⟩, b0, b1⟩ := digs_top v hv0
    have e1 := lim_split (len3 v - 6) 6
    rw [show len3 v - 6 + 6 = len3 v by omega, show lim 6 = 364 by decide] at e1
    have e2 := lim_split (len3 v - 6) 5
    rw [show len3 v - 6 + 5 = len3 v - 1 by omega, show lim 5 = 121 by decide] at e2
    have hp := pow3_lim (len3 v - 6)
    have hn := lim_nonneg (len3 v - 6)
    generalize val (digs v) = h at *
    have m1 : h * pow3 (len3 v - 6) ≤ 364 * pow3 (len3 v - 6) := Int.mul_le_mul_of_nonneg_right b1 (by omega)
    have m2 : (-364) * pow3 (len3 v - 6) ≤ h * pow3 (len3 v - 6) := Int.mul_le_mul_of_nonneg_right b0 (by omega)
    refine ⟨by omega, fun hv => ?_, fun hv => ?_⟩
    · have : 122 * pow3 (len3 v - 6) ≤ h * pow3 (len3 v - 6) := Int.mul_le_mul_of_nonneg_right (t1 hv) (by omega)
      omega
    · have : h * pow3 (len3 v - 6) ≤ (-122) * pow3 (len3 v - 6) := Int.mul_le_mul_of_nonneg_right (t2 hv) (by omega)
      omega
theorem kept_mono {a b : Int} (h : a < b) : kept a ≤ kept b := by
  have ka := kept_bd a
  have kb := kept_bd b
  rcases Nat.lt_trichotomy (len3 a) (len3 b) with hl | hl | hl
  · have hm := lim_mono (show len3 a ≤ len3 b - 1 by omega)
    have hb : 0 < b := by
      have g := len3_gt (n := b) (k := len3 a) hl
      have d := len3_bd a
      have := lim_nonneg (len3 a)
      omega
    have := kb.2.1 hb
    omega
  · by_cases hs : len3 a ≤ 6
    · unfold kept
      rw [if_pos hs, if_pos (by omega)]; omega
    · obtain ⟨l1, e1, x1, y1⟩ := digs_big a (by omega)
      obtain ⟨l2, e2, x2, y2⟩ := digs_big b (by omega)
      unfold kept
      rw [if_neg hs, if_neg (by omega)]
      rw [← hl] at *
      have hp := pow3_lim (len3 a - 6)
      generalize val (digs a) = p at *
      generalize val (digs b) = q at *
      generalize len3 a - 6 = k at *
      refine Int.mul_le_mul_of_nonneg_right ?_ (by have := pow3_pos k; omega)
      rcases Int.lt_or_le q p with z | z
      · exfalso
        have : (q + 1) * pow3 k ≤ p * pow3 k := Int.mul_le_mul_of_nonneg_right (by omega) (by have := pow3_pos k; omega)
        rw [Int.add_mul, Int.one_mul] at this
        omega
      · exact z
  · have hm := lim_mono (show len3 b ≤ len3 a - 1 by omega)
    have ha : a < 0 := by
      have g := len3_gt (n := a) (k := len3 b) hl
      have d := len3_bd b
      have := lim_nonneg (len3 b)
      omega
    have := ka.2.2 ha
    omega
/-- What a rounded number is worth. -/
theorem kept_val (v : Int) : val (flo v 0).1 * pow3 ((flo v 0).2.1 + 20).toNat = kept v * pow3 20 ∨ (flo v 0).2.2 = false := by
  unfold flo
  by_cases hv : v = 0
  · left
    subst hv
    rw [if_pos rfl]
    decide +kernel
  · rw [if_neg hv]
    by_cases hb : -20 ≤ (0 : Int) + len3 v - 6 ∧ (0 : Int) + len3 v - 6 ≤ 20
    · left
      rw [if_pos hb]
      show val (digs v) * pow3 ((0 : Int) + len3 v - 6 + 20).toNat = _
      rw [show ((0 : Int) + len3 v - 6 + 20).toNat = len3 v + 14 by omega]
      unfold kept
      by_cases hs : len3 v ≤ 6
      · rw [if_pos hs, digs_small v hs, Int.mul_assoc, ← pow3_add, show 6 - len3 v + (len3 v + 14) = 20 by omega]
      · rw [if_neg hs, Int.mul_assoc, ← pow3_add, show len3 v - 6 + 20 = len3 v + 14 by omega]
    · right
      rw [if_neg hb]

theorem getD_tops (w : List Int) : ∀ i : Nat, tops w ≤ i → w.getD i 0 = 0 := by
  induction w with
  | nil => intro i _; rfl
  | cons a w ih =>
    intro i hi
    simp only [tops] at hi
    cases i with
    | zero =>
      by_cases h : tops w = 0
      · rw [if_pos h] at hi
        by_cases ha : a = 0
        · simpa using ha
        · rw [if_neg ha] at hi; omega
      · rw [if_neg h] at hi; omega
    | succ i =>
      have := ih i (by split at hi; rename_i h; omega; omega)
      simpa using this
theorem fl_digs {v x : Int} (h : v ≠ 0) : Fl (digs v) x ↔ -20 ≤ x ∧ x ≤ 20 := by
  constructor
  · exact fun h => ⟨h.2.2.1, h.2.2.2.1⟩
  · intro hx
    have e : flo v (x - len3 v + 6) = (digs v, x, true) := by
      unfold flo
      rw [if_neg h, if_pos (by omega), show x - (len3 v : Int) + 6 + (len3 v : Int) - 6 = x by omega]
    have := flo_Fl (v := v) (e := x - len3 v + 6) (by rw [e])
    rw [e] at this
    exact this
theorem digs_eq_big (v : Int) (h : 6 ≤ len3 v) : digs v = (word v (len3 v)).drop (len3 v - 6) := by
  unfold digs
  rw [List.drop_append, List.drop_of_length_le (by simp; omega), List.nil_append, List.length_replicate]
theorem digs_eq_small (v : Int) (h : len3 v ≤ 6) : digs v = List.replicate (6 - len3 v) 0 ++ word v (len3 v) := by
  unfold digs
  rw [List.drop_append_of_le_length (by simpa using h), List.drop_replicate]
theorem near_neg (x ea y eb : Int) : near x ea (-y) eb = ((near x ea y eb).1, -(near x ea y eb).2.1, (near x ea y eb).2.2) := by
  unfold near
  by_cases hx : x = 0
  · rw [if_pos hx, if_pos hx]
  · rw [if_neg hx, if_neg hx]
    by_cases hy : y = 0
    · rw [if_pos hy, if_pos (by omega)]; rfl
    · rw [if_neg hy, if_neg (by omega)]
      split
      · rfl
      · split
        · rfl
        · rw [Int.neg_mul]
theorem sumF_bd {a : List Int} {ea : Int} (ha : Fl a ea) : (-lim 46 ≤ val a * pow3 (ea + 20).toNat ∧ val a * pow3 (ea + 20).toNat ≤ lim 46) := by
  have h1 := val_bd a ha.2.1
  rw [ha.1] at h1
  have h2 := ha.2.2
  have h3 := lim_split (ea + 20).toNat 6
  have h4 := lim_mono (show (ea + 20).toNat + 6 ≤ 46 by omega)
  have h5 := lim_nonneg (ea + 20).toNat
  have h6 := pow3_pos (ea + 20).toNat
  have := mul_le (x := val a) (y := pow3 (ea + 20).toNat) (a := lim 6) (b := pow3 (ea + 20).toNat) h1 (by omega)
  omega
/-- A small number, as a floating one: its digits, moved up. -/
theorem flo_small (n : Int) (h0 : -364 ≤ n) (h1 : n ≤ 364) : ∃ d p, flo n 0 = (d, -((p : Nat) : Int), true) ∧ val d = n * pow3 p ∧ p ≤ 6 ∧ Fl d (-(p : Int)) ∧ val (d.drop p) = n := by
  by_cases hz : n = 0
  · subst hz
    refine ⟨List.replicate 6 0, 0, rfl, by decide, by omega, ⟨by simp, ?_, by decide, by decide, .inr ⟨by decide, rfl⟩⟩, by decide⟩
    intro a ha; rw [(List.mem_replicate.1 ha).2]; decide
  · have hl := len3_le 6 n (by rw [show lim 6 = 364 by decide]; omega) (by rw [show lim 6 = 364 by decide]; omega)
    have hf : flo n 0 = (digs n, -((6 - len3 n : Nat) : Int), true) := by
      unfold flo
      rw [if_neg hz, if_pos (by omega), show (0 : Int) + len3 n - 6 = -((6 - len3 n : Nat) : Int) by omega]
    refine ⟨digs n, 6 - len3 n, hf, digs_small n hl, by omega, ?_, ?_⟩
    · have := flo_Fl (v := n) (e := 0) (by rw [hf])
      rw [hf] at this
      exact this
    · rw [digs_eq_small n hl, List.drop_left' (by simp), val_word _ n (len3_bd n).1 (len3_bd n).2]
theorem flo_powN (v : Int) (p : Nat) (e : Int) : flo (v * pow3 p) (-(p : Int) + e) = flo v e := by rw [flo_pow]; congr 1; omega
theorem sg_neg (v : Int) : sg (-v) = -sg v := by
  unfold sg
  split
  · split
    · omega
    · split
      · rfl
      · omega
  · split
    · split
      · rfl
      · omega
    · split
      · omega
      · split
        · omega
        · rfl

end Go.Proofs.Ytiamngcapghmdaa.Tern
