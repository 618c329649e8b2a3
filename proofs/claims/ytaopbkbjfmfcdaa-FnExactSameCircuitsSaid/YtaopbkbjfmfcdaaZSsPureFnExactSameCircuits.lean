/- For all pairs of circuits the program's SameCircuits answers as the reference does, and changes no argument; no condition. -/
import Derived.Test.YtaopbkbjfmfcdaaZSsPSl15
import Derived.Test.YtaopbkbjfmfcdaaZSsGlue
namespace Go.Proofs.Ytaopbkbjfmfcdaa.Pure
open Go.RowKit Go.Proofs.Ytaopbkbjfmfcdaa.Tern Go.Proofs.Ytaopbkbjfmfcdaa.P Go.Proofs.YtaopbkbjfmfcdaaW.PrintWords Go.Proofs.YtaopbkbjfmfcdaaW.PrintLast
set_option linter.unusedVariables false
set_option linter.unusedSimpArgs false

namespace FnExactSameCircuitsParts
theorem spec_l1In_f (x a b : Int) : spec_l1In.f x a b = some (decide (a ≤ x ∧ x ≤ b)) := by
  unfold spec_l1In.f
  split
  · rename_i h
    simp [show a ≤ x from h]
  · rename_i h
    have : ¬ (a ≤ x) := h
    simp [this]
theorem laws_toIntS_l0 (l : List Int) (hl : l.length ≤ 2000000) : ∀ (d k i : Nat), i + d = l.length → d < k →
    laws_toIntS.l0 k l (l.take i ++ List.replicate d 0) (i : Int) = some l := by
  intro d
  induction d with
  | zero =>
    intro k i h hk
    obtain ⟨k, rfl⟩ : ∃ m, k = m + 1 := ⟨k - 1, by omega⟩
    simp only [laws_toIntS.l0]
    rw [if_neg (by omega)]; simp [List.take_of_length_le (show l.length ≤ i by omega)]
  | succ d ih =>
    intro k i h hk
    obtain ⟨k, rfl⟩ : ∃ m, k = m + 1 := ⟨k - 1, by omega⟩
    have hlen : (l.take i).length = i := by rw [List.length_take]; omega
    simp only [laws_toIntS.l0]
    rw [if_pos (by omega), if_pos (by omega), if_pos (by rw [List.length_append, List.length_replicate, hlen]; omega), w64 _ (by omega) (by omega)]
    have e : (l.take i ++ List.replicate (d + 1) (0 : Int)).set (i : Int).toNat (rd l (i : Int)) = l.take (i + 1) ++ List.replicate d 0 := by
      have h1 := set_append_len (l.take i) 0 (rd l (i : Int)) (List.replicate d 0)
      rw [hlen] at h1
      rw [Int.toNat_natCast, List.replicate_succ, h1, take_rd l i (by omega), List.append_assoc]; rfl
    rw [e, show (i : Int) + 1 = ((i + 1 : Nat) : Int) from by omega]
    exact ih k (i + 1) (by omega) (by omega)
theorem laws_toIntS_f (k : Nat) (l : List Int) (hk : 2000001 ≤ k) (hl : l.length ≤ 2000000) : laws_toIntS.f k l = some l := by
  unfold laws_toIntS.f
  rw [if_pos (by omega), if_pos (by omega)]
  have := laws_toIntS_l0 l hl l.length k 0 (by omega) (by omega)
  simpa using this
theorem laws_eqIntS_l0 (a b : List Int) (hl : a.length ≤ 2000000) (hb : a.length = b.length) : ∀ (d k i : Nat), i + d = a.length → d < k →
    laws_eqIntS.l0 k a b (i : Int) = some (decide (a.drop i = b.drop i)) := by
  intro d
  induction d with
  | zero =>
    intro k i h hk
    obtain ⟨k, rfl⟩ : ∃ m, k = m + 1 := ⟨k - 1, by omega⟩
    simp only [laws_eqIntS.l0]
    rw [if_neg (by omega), List.drop_eq_nil_of_le (by omega), List.drop_eq_nil_of_le (by omega)]; simp
  | succ d ih =>
    intro k i h hk
    obtain ⟨k, rfl⟩ : ∃ m, k = m + 1 := ⟨k - 1, by omega⟩
    simp only [laws_eqIntS.l0]
    rw [if_pos (by omega), if_pos (by omega), if_pos (by omega), drop_rd a i (by omega), drop_rd b i (by omega), w64 _ (by omega) (by omega)]
    by_cases c : rd a (i : Int) = rd b (i : Int)
    · rw [if_pos c, show (i : Int) + 1 = ((i + 1 : Nat) : Int) from by omega, ih k (i + 1) (by omega) (by omega)]
      simp [c]
    · rw [if_neg c]; simp [c]
theorem laws_eqIntS_f (k : Nat) (a b : List Int) (hk : 2000001 ≤ k) (hl : a.length ≤ 2000000) : laws_eqIntS.f k a b = some (decide (a = b)) := by
  unfold laws_eqIntS.f
  by_cases h : a.length = b.length
  · rw [if_pos (by omega)]
    have := laws_eqIntS_l0 a b hl h a.length k 0 (by omega) (by omega)
    simpa using this
  · rw [if_neg (by omega)]
    have : a ≠ b := fun e => h (by rw [e])
    simp [this]
theorem laws_szIntS_f (l : List Int) (a : Int) (hl : l.length ≤ maxLen) (h0 : 0 ≤ a) (h1 : a ≤ 1048576) : laws_szIntS.f l a = some (if a < (l.length : Int) then -1 else a - l.length) := by
  unfold maxLen at hl
  unfold laws_szIntS.f
  rw [w64 _ (by omega) (by omega)]
  by_cases h : a < (l.length : Int)
  · rw [if_pos (by omega), if_pos h]
  · rw [if_neg (by omega), if_neg h]
theorem rd_L2_two (a b : List Int) : rd_L6 [a, b] 0 = a ∧ rd_L6 [a, b] 1 = b := ⟨rfl, rfl⟩
theorem slices_Concat_f2 (k : Nat) (a b : List Int) (hk : 100 ≤ k) (ha : a.length ≤ 2000000) (hb : b.length ≤ 2000000) : slices_Concat_int_int.f k [a, b] = some (a ++ b) := by
  obtain ⟨k, rfl⟩ : ∃ m, k = m + 6 := ⟨k - 6, by omega⟩
  unfold slices_Concat_int_int.f
  have l2 : (([a, b] : List (List Int)).length : Int) = 2 := rfl
  rw [l2, slices_Concat_int_int.l0, l2, if_pos (by omega), if_pos (by omega), if_pos (by omega), (rd_L2_two a b).1, w64 (0 + (a.length : Int)) (by omega) (by omega), if_neg (by omega), w64 (0 + 1) (by omega) (by omega), Int.zero_add, Int.zero_add]
  rw [slices_Concat_int_int.l0, l2, if_pos (by omega), if_pos (by omega), if_pos (by omega), (rd_L2_two a b).2, w64 ((a.length : Int) + (b.length : Int)) (by omega) (by omega), if_neg (by omega), w64 (1 + 1) (by omega) (by omega)]
  rw [slices_Concat_int_int.l0, if_neg (by omega)]
  unfold slices_Grow_int_int.f
  rw [if_pos (by omega), if_pos (by omega), if_pos List.length_nil, bsome, l2]
  rw [slices_Concat_int_int.l1, l2, if_pos (by omega), if_pos (by omega), if_pos (by omega), (rd_L2_two a b).1, if_pos (by rw [List.length_nil]; omega), w64 (0 + 1) (by omega) (by omega), List.nil_append, Int.zero_add]
  rw [slices_Concat_int_int.l1, l2, if_pos (by omega), if_pos (by omega), if_pos (by omega), (rd_L2_two a b).2, if_pos (by omega), w64 (1 + 1) (by omega) (by omega)]
  rw [slices_Concat_int_int.l1, if_neg (by omega)]
/-- A gate as the program has it. -/
def gOf (x : S87) : S46 := ⟨⟨x.f0.f0, x.f0.f1, x.f0.f2, x.f0.f3, x.f0.f4, x.f0.f5, x.f0.f6, x.f0.f7, x.f0.f8⟩, x.f1, x.f2⟩
theorem drop_rdG (l : List S46) (i : Nat) (h : i < l.length) : l.drop i = rd_T46 l (i : Int) :: l.drop (i + 1) := by
  unfold rd_T46
  rw [Int.toNat_natCast, List.drop_eq_getElem_cons h, List.getD_eq_getElem?_getD, List.getElem?_eq_getElem h]; rfl
theorem take_rdH (l : List S87) (i : Nat) (h : i < l.length) : l.take (i + 1) = l.take i ++ [rd_T87 l (i : Int)] := by
  unfold rd_T87
  rw [Int.toNat_natCast, List.take_succ_eq_append_getElem h, List.getD_eq_getElem?_getD, List.getElem?_eq_getElem h]; rfl
theorem set_app_len {α : Type} (a : List α) (x y : α) (b : List α) : (a ++ x :: b).set a.length y = a ++ y :: b := by
  rw [List.set_append_right _ _ (Nat.le_refl _), Nat.sub_self]; rfl
theorem laws_toGate_f (a0 a1 a2 a3 a4 a5 a6 a7 a8 a9 a10 : Int) : laws_toGate.f a0 a1 a2 a3 a4 a5 a6 a7 a8 a9 a10 = some (a0, a1, a2, a3, a4, a5, a6, a7, a8, a9, a10) := by
  unfold laws_toGate.f laws_toTable.f
  rw [bsome]
theorem laws_toGateS_l0 (l : List S87) (hl : l.length ≤ 2000000) : ∀ (d k i : Nat), i + d = l.length → d < k →
    laws_toGateS.l0 k l ((l.take i).map gOf ++ List.replicate d z46) (i : Int) = some (l.map gOf) := by
  intro d
  induction d with
  | zero =>
    intro k i h hk
    obtain ⟨k, rfl⟩ : ∃ m, k = m + 1 := ⟨k - 1, by omega⟩
    simp only [laws_toGateS.l0]
    rw [if_neg (by omega)]; simp [List.take_of_length_le (show l.length ≤ i by omega)]
  | succ d ih =>
    intro k i h hk
    obtain ⟨k, rfl⟩ : ∃ m, k = m + 1 := ⟨k - 1, by omega⟩
    have hlen : ((l.take i).map gOf).length = i := by rw [List.length_map, List.length_take]; omega
    simp only [laws_toGateS.l0]
    rw [if_pos (by omega), if_pos (by omega), laws_toGate_f, bsome, if_pos (by rw [List.length_append, List.length_replicate, hlen]; omega), w64 _ (by omega) (by omega)]
    have e : ((l.take i).map gOf ++ List.replicate (d + 1) z46).set (i : Int).toNat (gOf (rd_T87 l (i : Int))) = (l.take (i + 1)).map gOf ++ List.replicate d z46 := by
      have h1 := set_app_len ((l.take i).map gOf) z46 (gOf (rd_T87 l (i : Int))) (List.replicate d z46)
      rw [hlen] at h1
      rw [Int.toNat_natCast, List.replicate_succ, h1, take_rdH l i (by omega), List.map_append, List.append_assoc]; rfl
    have e' := ih k (i + 1) (by omega) (by omega)
    rw [← e] at e'
    rw [show (i : Int) + 1 = ((i + 1 : Nat) : Int) from by omega]
    exact e'
theorem laws_toGateS_f (k : Nat) (l : List S87) (hk : 2000001 ≤ k) (hl : l.length ≤ 2000000) : laws_toGateS.f k l = some (l.map gOf) := by
  unfold laws_toGateS.f
  rw [if_pos (by omega), if_pos (by omega)]
  have := laws_toGateS_l0 l hl l.length k 0 (by omega) (by omega)
  simpa using this
theorem laws_toCircuit_f (k : Nat) (a : Int) (l : List S87) (m : List Int) (hk : 2000001 ≤ k) (hl : l.length ≤ 2000000) (hm : m.length ≤ 2000000) : laws_toCircuit.f k a l m = some (a, l.map gOf, m) := by
  unfold laws_toCircuit.f
  rw [laws_toGateS_f k l hk hl, bsome, laws_toIntS_f k m hk hm, bsome]
theorem laws_szCircuit_f (a : Int) (l : List S87) (m : List Int) (z : Int) (hl : l.length ≤ maxLen) (hm : m.length ≤ maxLen) (h0 : 0 ≤ z) (h1 : z ≤ 1048576) : ∃ v, laws_szCircuit.f a l m z = some v ∧ (v < 0 ∨ (0 ≤ v ∧ v ≤ z ∧ (l.length : Int) ≤ z ∧ (m.length : Int) ≤ z)) := by
  unfold laws_szCircuit.f laws_szGateS.f
  unfold maxLen at hl
  rw [w64 _ (by omega) (by omega)]
  by_cases c : z - (l.length : Int) < 0
  · rw [if_pos c, bsome, if_pos (by omega)]
    exact ⟨-1, rfl, .inl (by omega)⟩
  · rw [if_neg c, bsome, if_neg (by omega), laws_szIntS_f m _ hm (by omega) (by omega), bsome]
    by_cases d : z - (l.length : Int) < (m.length : Int)
    · rw [if_pos d, if_pos (by omega)]
      exact ⟨-1, rfl, .inl (by omega)⟩
    · rw [if_neg d, if_neg (by omega)]
      exact ⟨_, rfl, .inr ⟨by omega, by omega, by omega, by omega⟩⟩
theorem laws_eqGateS_l0 (a : List S46) (hl : a.length ≤ 2000000) : ∀ (d k i : Nat), i + d = a.length → d < k → laws_eqGateS.l0 k a a (i : Int) = some true := by
  intro d
  induction d with
  | zero =>
    intro k i h hk
    obtain ⟨k, rfl⟩ : ∃ m, k = m + 1 := ⟨k - 1, by omega⟩
    simp only [laws_eqGateS.l0]
    rw [if_neg (by omega)]
  | succ d ih =>
    intro k i h hk
    obtain ⟨k, rfl⟩ : ∃ m, k = m + 1 := ⟨k - 1, by omega⟩
    simp only [laws_eqGateS.l0]
    rw [if_pos (by omega), if_pos (by omega), if_pos (by omega)]
    generalize rd_T46 a (i : Int) = g
    have e : laws_eqGate.f g.f0.f0 g.f0.f1 g.f0.f2 g.f0.f3 g.f0.f4 g.f0.f5 g.f0.f6 g.f0.f7 g.f0.f8 g.f1 g.f2 g.f0.f0 g.f0.f1 g.f0.f2 g.f0.f3 g.f0.f4 g.f0.f5 g.f0.f6 g.f0.f7 g.f0.f8 g.f1 g.f2 = some true := by
      unfold laws_eqGate.f laws_eqTable.f
      rw [bsome, if_pos (by unfold eqL; exact decide_eq_true rfl), if_pos rfl, if_pos rfl]
    rw [e, bsome, if_pos rfl, w64 _ (by omega) (by omega), show (i : Int) + 1 = ((i + 1 : Nat) : Int) from by omega]
    exact ih k (i + 1) (by omega) (by omega)
theorem laws_eqGateS_same (k : Nat) (a : List S46) (hk : 2000001 ≤ k) (hl : a.length ≤ 2000000) : laws_eqGateS.f k a a = some true := by
  unfold laws_eqGateS.f
  rw [if_pos rfl]
  exact laws_eqGateS_l0 a hl a.length k 0 (by omega) (by omega)
theorem laws_eqCircuit_same (k : Nat) (a : Int) (l : List S46) (m : List Int) (hk : 2000001 ≤ k) (hl : l.length ≤ 2000000) (hm : m.length ≤ 2000000) : laws_eqCircuit.f k a l m a l m = some true := by
  unfold laws_eqCircuit.f
  rw [if_pos rfl, laws_eqGateS_same k l hk hl, bsome, if_pos rfl, laws_eqIntS_f k m m hk hm, bsome, if_pos (decide_eq_true rfl)]
/-- A gate over so many lines; gates that follow each other; a circuit. -/
def okG (n : Int) (g : S46) : Bool := isT9 [g.f0.f0, g.f0.f1, g.f0.f2, g.f0.f3, g.f0.f4, g.f0.f5, g.f0.f6, g.f0.f7, g.f0.f8] && (decide (0 ≤ g.f1 ∧ g.f1 < n) && decide (0 ≤ g.f2 ∧ g.f2 < n))
def okGs : Int → List S46 → Bool
  | _, [] => true
  | n, g :: gs => okG n g && okGs (n + 1) gs
def okO (n : Int) : List Int → Bool
  | [] => true
  | x :: xs => decide (0 ≤ x ∧ x < n) && okO n xs
def isCirc (a : Int) (gs : List S46) (os : List Int) : Bool := decide (0 ≤ a ∧ a ≤ 8) && (decide (gs.length ≤ 60) && (decide (os.length ≤ 60) && (okGs (3 + a) gs && okO (3 + a + gs.length) os)))
theorem isCirc_parts {a : Int} {gs : List S46} {os : List Int} (h : isCirc a gs os = true) : 0 ≤ a ∧ a ≤ 8 ∧ gs.length ≤ 60 ∧ os.length ≤ 60 ∧ okGs (3 + a) gs = true ∧ okO (3 + a + gs.length) os = true := by
  unfold isCirc at h
  simp only [Bool.and_eq_true, decide_eq_true_eq] at h
  exact ⟨h.1.1, h.1.2, h.2.1, h.2.2.1, h.2.2.2.1, h.2.2.2.2⟩
theorem spec_IsCircuit_l1 (n : Int) (gs : List S46) (os : List Int) (a : Int) (h0 : 0 ≤ n) (h1 : n ≤ 11) (hg : gs.length ≤ 60) (ho : os.length ≤ 60) : ∀ (d k i : Nat), i + d = os.length → d < k →
    spec_IsCircuit.l1 k n os (os.length : Int) (i : Int) a gs os = some (okO (n + gs.length) (os.drop i)) := by
  intro d
  induction d with
  | zero =>
    intro k i h hk
    obtain ⟨k, rfl⟩ : ∃ m, k = m + 1 := ⟨k - 1, by omega⟩
    simp only [spec_IsCircuit.l1]
    rw [if_neg (by omega), List.drop_eq_nil_of_le (by omega)]; rfl
  | succ d ih =>
    intro k i h hk
    obtain ⟨k, rfl⟩ : ∃ m, k = m + 1 := ⟨k - 1, by omega⟩
    simp only [spec_IsCircuit.l1]
    rw [if_pos (by omega), if_pos (by omega), if_pos (by omega), spec_l1In_f, bsome, w64 (n + _) (by omega) (by omega), w64 (n + _ - 1) (by omega) (by omega), w64 ((i : Int) + 1) (by omega) (by omega), drop_rd os i (by omega), okO]
    by_cases c : 0 ≤ rd os (i : Int) ∧ rd os (i : Int) ≤ n + gs.length - 1
    · rw [if_pos (decide_eq_true c), show (i : Int) + 1 = ((i + 1 : Nat) : Int) from by omega, ih k (i + 1) (by omega) (by omega), decide_eq_true (show 0 ≤ rd os (i : Int) ∧ rd os (i : Int) < n + gs.length by omega)]
      rfl
    · rw [decide_eq_false c, if_neg (by decide), decide_eq_false (show ¬ (0 ≤ rd os (i : Int) ∧ rd os (i : Int) < n + gs.length) by omega)]
      rfl
theorem spec_IsCircuit_l0 (n : Int) (gs : List S46) (os : List Int) (a : Int) (h0 : 0 ≤ n) (h1 : n ≤ 11) (hg : gs.length ≤ 60) (ho : os.length ≤ 60) : ∀ (d k i : Nat), i + d = gs.length → d + 100 < k →
    spec_IsCircuit.l0 k n gs (gs.length : Int) (i : Int) a gs os = some (okGs (n + i) (gs.drop i) && okO (n + gs.length) os) := by
  intro d
  induction d with
  | zero =>
    intro k i h hk
    obtain ⟨k, rfl⟩ : ∃ m, k = m + 1 := ⟨k - 1, by omega⟩
    simp only [spec_IsCircuit.l0]
    rw [if_neg (by omega), List.drop_eq_nil_of_le (by omega)]
    have := spec_IsCircuit_l1 n gs os a h0 h1 hg ho os.length k 0 (by omega) (by omega)
    simp only [Int.natCast_zero, List.drop_zero] at this
    rw [this]; simp [okGs]
  | succ d ih =>
    intro k i h hk
    obtain ⟨k, rfl⟩ : ∃ m, k = m + 1 := ⟨k - 1, by omega⟩
    simp only [spec_IsCircuit.l0]
    rw [if_pos (by omega), if_pos (by omega), if_pos (by omega), drop_rdG gs i (by omega), okGs]
    generalize rd_T46 gs (i : Int) = g
    unfold spec_IsTable.f okG
    rw [bsome, w64 (n + _) (by omega) (by omega), w64 (n + _ - 1) (by omega) (by omega), w64 ((i : Int) + 1) (by omega) (by omega), spec_l1In_f, bsome, spec_l1In_f, bsome]
    cases e : isT9 [g.f0.f0, g.f0.f1, g.f0.f2, g.f0.f3, g.f0.f4, g.f0.f5, g.f0.f6, g.f0.f7, g.f0.f8] with
    | false => rw [if_neg (by decide)]; rfl
    | true =>
      rw [if_pos rfl]
      by_cases c1 : 0 ≤ g.f1 ∧ g.f1 ≤ n + i - 1
      · rw [if_pos (decide_eq_true c1), decide_eq_true (show 0 ≤ g.f1 ∧ g.f1 < n + i by omega)]
        by_cases c2 : 0 ≤ g.f2 ∧ g.f2 ≤ n + i - 1
        · rw [if_pos (decide_eq_true c2), decide_eq_true (show 0 ≤ g.f2 ∧ g.f2 < n + i by omega), show (i : Int) + 1 = ((i + 1 : Nat) : Int) from by omega, ih k (i + 1) (by omega) (by omega), show n + ((i + 1 : Nat) : Int) = n + i + 1 by omega]
          rfl
        · rw [decide_eq_false c2, if_neg (by decide), decide_eq_false (show ¬ (0 ≤ g.f2 ∧ g.f2 < n + i) by omega)]
          rfl
      · rw [decide_eq_false c1, if_neg (by decide), decide_eq_false (show ¬ (0 ≤ g.f1 ∧ g.f1 < n + i) by omega)]
        rfl
theorem spec_IsCircuit_f (k : Nat) (a : Int) (gs : List S46) (os : List Int) (hk : 2000001 ≤ k) : spec_IsCircuit.f k a gs os = some (isCirc a gs os) := by
  unfold spec_IsCircuit.f isCirc
  rw [spec_l1In_f, bsome]
  obtain ⟨k, rfl⟩ : ∃ m, k = m + 1 := ⟨k - 1, by omega⟩
  by_cases c : 0 ≤ a ∧ a ≤ 8
  · rw [if_pos (decide_eq_true c), decide_eq_true c]
    by_cases c1 : gs.length ≤ 60
    · rw [if_neg (by omega), decide_eq_true c1]
      by_cases c2 : os.length ≤ 60
      · rw [decide_eq_false (show ¬ ((os.length : Int) > 60) by omega), decide_eq_true c2]
        simp only [spec_IsCircuit.j0]
        rw [if_neg (by decide), w64 (3 + a) (by omega) (by omega)]
        have := spec_IsCircuit_l0 (3 + a) gs os a (by omega) (by omega) c1 c2 gs.length k 0 (by omega) (by omega)
        simp only [List.drop_zero, Int.natCast_zero, Int.add_zero] at this
        rw [this]; rfl
      · rw [decide_eq_true (show ((os.length : Int) > 60) by omega), decide_eq_false c2]
        simp only [spec_IsCircuit.j0]
        rfl
    · rw [if_pos (by omega), decide_eq_false c1]
      simp only [spec_IsCircuit.j0]
      rfl
  · rw [decide_eq_false c, if_neg (by decide)]
    simp only [spec_IsCircuit.j0]
    rfl
theorem contains_f (os : List Int) (n : Int) : slices_ContainsFunc_int_int.f os n = some (!okO n os) := by
  unfold slices_ContainsFunc_int_int.f outB
  congr 1
  induction os with
  | nil => simp [okO]
  | cons x xs ih =>
    rw [okO]
    by_cases c : 0 ≤ x ∧ x < n
    · rw [decide_eq_true c, Bool.true_and, ← ih]
      congr 1
      apply propext
      constructor
      · rintro ⟨y, hy, h⟩
        rcases List.mem_cons.1 hy with rfl | hy
        · omega
        · exact ⟨y, hy, h⟩
      · rintro ⟨y, hy, h⟩
        exact ⟨y, List.mem_cons_of_mem _ hy, h⟩
    · rw [decide_eq_false c, Bool.false_and]
      exact decide_eq_true ⟨x, List.mem_cons_self, by omega⟩
theorem impl_IsCircuit_l0 (n : Int) (gs : List S46) (os : List Int) (a : Int) (h0 : 0 ≤ n) (h1 : n ≤ 11) (hg : gs.length ≤ 60) : ∀ (d k i : Nat), i + d = gs.length → d < k →
    impl_IsCircuit.l0 k gs (gs.length : Int) (i : Int) a gs os (n + i) = some (okGs (n + i) (gs.drop i) && okO (n + gs.length) os) := by
  intro d
  induction d with
  | zero =>
    intro k i h hk
    obtain ⟨k, rfl⟩ : ∃ m, k = m + 1 := ⟨k - 1, by omega⟩
    simp only [impl_IsCircuit.l0]
    rw [if_neg (by omega), List.drop_eq_nil_of_le (by omega), contains_f, bsome, show i = gs.length by omega, okGs, Bool.true_and, Bool.not_not]
  | succ d ih =>
    intro k i h hk
    obtain ⟨k, rfl⟩ : ∃ m, k = m + 1 := ⟨k - 1, by omega⟩
    simp only [impl_IsCircuit.l0]
    rw [if_pos (by omega), if_pos (by omega), if_pos (by omega), drop_rdG gs i (by omega), okGs]
    generalize rd_T46 gs (i : Int) = g
    unfold impl_IsTable.f okG
    rw [bsome, w64 (n + i + 1) (by omega) (by omega), w64 ((i : Int) + 1) (by omega) (by omega)]
    have ih' := ih k (i + 1) (by omega) (by omega)
    rw [show n + ((i + 1 : Nat) : Int) = n + i + 1 by omega, show ((i + 1 : Nat) : Int) = (i : Int) + 1 from by omega] at ih'
    rw [ih']
    cases e : isT9 [g.f0.f0, g.f0.f1, g.f0.f2, g.f0.f3, g.f0.f4, g.f0.f5, g.f0.f6, g.f0.f7, g.f0.f8] with
    | false => rw [if_neg (by decide)]; rfl
    | true =>
      rw [if_pos rfl]
      by_cases c1 : 0 ≤ g.f1 ∧ g.f1 < n + i
      · rw [if_neg (by omega), if_neg (by omega), decide_eq_true c1]
        by_cases c2 : 0 ≤ g.f2 ∧ g.f2 < n + i
        · rw [if_neg (by omega), if_neg (by omega), decide_eq_true c2]
          rfl
        · rw [decide_eq_false c2]
          by_cases c3 : g.f2 < 0
          · rw [if_pos c3]; rfl
          · rw [if_neg c3, if_pos (by omega)]; rfl
      · rw [decide_eq_false c1]
        by_cases c3 : g.f1 < 0
        · rw [if_pos c3]; rfl
        · rw [if_neg c3, if_pos (by omega)]; rfl
theorem impl_IsCircuit_f (k : Nat) (a : Int) (gs : List S46) (os : List Int) (hk : 2000001 ≤ k) : impl_IsCircuit.f k a gs os = some (isCirc a gs os) := by
  unfold impl_IsCircuit.f isCirc
  obtain ⟨k, rfl⟩ : ∃ m, k = m + 1 := ⟨k - 1, by omega⟩
  by_cases c : 0 ≤ a ∧ a ≤ 8
  · rw [if_neg (by omega), if_neg (by omega), decide_eq_true c]
    by_cases c1 : gs.length ≤ 60
    · rw [if_neg (by omega), decide_eq_true c1]
      by_cases c2 : os.length ≤ 60
      · rw [decide_eq_false (show ¬ ((os.length : Int) > 60) by omega), decide_eq_true c2]
        simp only [impl_IsCircuit.j0]
        rw [if_neg (by decide), w64 (3 + a) (by omega) (by omega)]
        have := impl_IsCircuit_l0 (3 + a) gs os a (by omega) (by omega) c1 gs.length k 0 (by omega) (by omega)
        simp only [List.drop_zero, Int.natCast_zero, Int.add_zero] at this
        rw [this]; rfl
      · rw [decide_eq_true (show ((os.length : Int) > 60) by omega), decide_eq_false c2]
        simp only [impl_IsCircuit.j0]
        rfl
    · rw [if_pos (by omega), decide_eq_false c1]
      simp only [impl_IsCircuit.j0]
      rfl
  · rw [decide_eq_false c]
    simp only [impl_IsCircuit.j0]
    by_cases d : a < 0
    · rw [if_pos d]; rfl
    · rw [if_neg d, if_pos (by omega)]; rfl
theorem okG_parts {n : Int} {g : S46} (h : okG n g = true) : isT9 [g.f0.f0, g.f0.f1, g.f0.f2, g.f0.f3, g.f0.f4, g.f0.f5, g.f0.f6, g.f0.f7, g.f0.f8] = true ∧ 0 ≤ g.f1 ∧ g.f1 < n ∧ 0 ≤ g.f2 ∧ g.f2 < n := by
  unfold okG at h
  simp only [Bool.and_eq_true, decide_eq_true_eq] at h
  exact ⟨h.1, h.2.1.1, h.2.1.2, h.2.2.1, h.2.2.2⟩
theorem rd_memI (l : List Int) (i : Int) (h0 : 0 ≤ i) (h1 : i < (l.length : Int)) : rd l i ∈ l := by
  obtain ⟨m, rfl⟩ := Int.eq_ofNat_of_zero_le h0
  exact rd_mem l m (by omega)
theorem trB_iff (x : Int) : trB x = true ↔ -1 ≤ x ∧ x ≤ 1 := by
  unfold trB
  simp only [Bool.and_eq_true, decide_eq_true_eq]
theorem isT9_mem {l : List Int} (h : isT9 l = true) {x : Int} (hx : x ∈ l) : -1 ≤ x ∧ x ≤ 1 := (trB_iff x).1 (List.all_eq_true.1 h x hx)
theorem isT9_of {l : List Int} (h : ∀ x, x ∈ l → -1 ≤ x ∧ x ≤ 1) : isT9 l = true := List.all_eq_true.2 fun x hx => (trB_iff x).2 (h x hx)
/-- A gate's trit; the lines that gates make, one behind the other. -/
def cells9 (g : S46) : List Int := [g.f0.f0, g.f0.f1, g.f0.f2, g.f0.f3, g.f0.f4, g.f0.f5, g.f0.f6, g.f0.f7, g.f0.f8]
def tab9 (g : S46) (a b : Int) : Int := rd (cells9 g) (3 * (a + 1) + b + 1)
def linesL (xs : List Int) : List S46 → List Int
  | [] => xs
  | g :: gs => linesL (xs ++ [tab9 g (rd xs g.f1) (rd xs g.f2)]) gs
theorem tab9_in (g : S46) (a b : Int) (h : isT9 [g.f0.f0, g.f0.f1, g.f0.f2, g.f0.f3, g.f0.f4, g.f0.f5, g.f0.f6, g.f0.f7, g.f0.f8] = true) (ha : -1 ≤ a ∧ a ≤ 1) (hb : -1 ≤ b ∧ b ≤ 1) : -1 ≤ tab9 g a b ∧ tab9 g a b ≤ 1 :=
  isT9_mem (l := cells9 g) h (rd_memI (cells9 g) _ (by omega) (by show _ < (9 : Int); omega))
theorem linesL_len (gs : List S46) : ∀ xs : List Int, (linesL xs gs).length = xs.length + gs.length := by
  induction gs with
  | nil => intro xs; simp [linesL]
  | cons g gs ih => intro xs; rw [linesL, ih]; simp; omega
theorem impl_trits_g (k : Nat) (l : List Int) (hk : 2000001 ≤ k) (hl : l.length ≤ 2000000) : impl_trits.f k l = some (isT9 l) := by
  unfold impl_trits.f
  have := impl_trits_go l hl l.length k 0 (by omega) (by omega)
  simpa using this
theorem impl_LookUp_g (k : Nat) (g : S46) (a b : Int) (hk : 2000001 ≤ k) (h : isT9 [g.f0.f0, g.f0.f1, g.f0.f2, g.f0.f3, g.f0.f4, g.f0.f5, g.f0.f6, g.f0.f7, g.f0.f8] = true) (ha : -1 ≤ a ∧ a ≤ 1) (hb : -1 ≤ b ∧ b ≤ 1) :
    impl_LookUp.f k g.f0.f0 g.f0.f1 g.f0.f2 g.f0.f3 g.f0.f4 g.f0.f5 g.f0.f6 g.f0.f7 g.f0.f8 a b = some (tab9 g a b) := by
  unfold impl_LookUp.f impl_IsTable.f
  rw [bsome, if_pos h, impl_trits_g k [a, b] hk (by simp), bsome, if_pos (isT9_of (by intro x hx; rcases List.mem_cons.1 hx with rfl | hx; exact ha; rw [List.mem_singleton.1 hx]; exact hb)), w64 (a + 1) (by omega) (by omega), w64 (3 * (a + 1)) (by omega) (by omega), w64 (3 * (a + 1) + b) (by omega) (by omega), w64 (3 * (a + 1) + b + 1) (by omega) (by omega), if_pos (by omega), if_pos (by omega)]
  rfl
theorem impl_lines_l0 (n : Int) (gs : List S46) (h0 : 0 ≤ n) (h1 : n ≤ 11) (hg : gs.length ≤ 60) : ∀ (d k i : Nat) (xs : List Int), i + d = gs.length → d + 2000001 < k → (xs.length : Int) = n + i → (∀ x, x ∈ xs → -1 ≤ x ∧ x ≤ 1) → okGs (n + i) (gs.drop i) = true →
    impl_lines.l0 k xs gs (gs.length : Int) (i : Int) = some (linesL xs (gs.drop i)) := by
  intro d
  induction d with
  | zero =>
    intro k i xs h hk hl hd ho
    obtain ⟨k, rfl⟩ : ∃ m, k = m + 1 := ⟨k - 1, by omega⟩
    simp only [impl_lines.l0]
    rw [if_neg (by omega), List.drop_eq_nil_of_le (by omega)]; rfl
  | succ d ih =>
    intro k i xs h hk hl hd ho
    obtain ⟨k, rfl⟩ : ∃ m, k = m + 1 := ⟨k - 1, by omega⟩
    simp only [impl_lines.l0]
    rw [drop_rdG gs i (by omega), okGs] at ho
    rw [if_pos (by omega), if_pos (by omega), if_pos (by omega), drop_rdG gs i (by omega), linesL]
    generalize rd_T46 gs (i : Int) = g at *
    simp only [Bool.and_eq_true] at ho
    obtain ⟨t9, a0, a1, b0, b1⟩ := okG_parts ho.1
    have m1 := hd _ (rd_memI xs g.f1 a0 (by omega))
    have m2 := hd _ (rd_memI xs g.f2 b0 (by omega))
    have m3 := tab9_in g _ _ t9 m1 m2
    rw [if_pos a0, if_pos (by omega), if_pos b0, if_pos (by omega), impl_LookUp_g k g _ _ (by omega) t9 m1 m2, bsome, if_pos (by omega), w64 ((i : Int) + 1) (by omega) (by omega)]
    generalize tab9 g (rd xs g.f1) (rd xs g.f2) = v at *
    have e := ih k (i + 1) (xs ++ [v]) (by omega) (by omega) (by simp; omega) (by
      intro x hx
      rcases List.mem_append.1 hx with hx | hx
      · exact hd x hx
      · rw [List.mem_singleton.1 hx]; exact m3) (by rw [show n + ((i + 1 : Nat) : Int) = n + i + 1 by omega]; exact ho.2)
    rw [show ((i + 1 : Nat) : Int) = (i : Int) + 1 from by omega] at e
    exact e
theorem spec_l6Lines_l0 (n : Int) (gs : List S46) (h0 : 0 ≤ n) (h1 : n ≤ 11) (hg : gs.length ≤ 60) : ∀ (d k i : Nat) (xs : List Int), i + d = gs.length → d < k → (xs.length : Int) = n + i → (∀ x, x ∈ xs → -1 ≤ x ∧ x ≤ 1) → okGs (n + i) (gs.drop i) = true →
    spec_l6Lines.l0 k xs gs (gs.length : Int) (i : Int) = some (linesL xs (gs.drop i)) := by
  intro d
  induction d with
  | zero =>
    intro k i xs h hk hl hd ho
    obtain ⟨k, rfl⟩ : ∃ m, k = m + 1 := ⟨k - 1, by omega⟩
    simp only [spec_l6Lines.l0]
    rw [if_neg (by omega), List.drop_eq_nil_of_le (by omega)]; rfl
  | succ d ih =>
    intro k i xs h hk hl hd ho
    obtain ⟨k, rfl⟩ : ∃ m, k = m + 1 := ⟨k - 1, by omega⟩
    simp only [spec_l6Lines.l0]
    rw [drop_rdG gs i (by omega), okGs] at ho
    rw [if_pos (by omega), if_pos (by omega), if_pos (by omega), drop_rdG gs i (by omega), linesL]
    generalize rd_T46 gs (i : Int) = g at *
    simp only [Bool.and_eq_true] at ho
    obtain ⟨t9, a0, a1, b0, b1⟩ := okG_parts ho.1
    have m1 := hd _ (rd_memI xs g.f1 a0 (by omega))
    have m2 := hd _ (rd_memI xs g.f2 b0 (by omega))
    have m3 := tab9_in g _ _ t9 m1 m2
    have et : tab9 g (rd xs g.f1) (rd xs g.f2) = rd [g.f0.f0, g.f0.f1, g.f0.f2, g.f0.f3, g.f0.f4, g.f0.f5, g.f0.f6, g.f0.f7, g.f0.f8] (3 * (rd xs g.f1 + 1) + rd xs g.f2 + 1) := rfl
    rw [if_pos a0, if_pos (by omega), if_pos b0, if_pos (by omega), w64 (rd xs g.f1 + 1) (by omega) (by omega), w64 (3 * (rd xs g.f1 + 1)) (by omega) (by omega), w64 (3 * (rd xs g.f1 + 1) + rd xs g.f2) (by omega) (by omega), w64 (3 * (rd xs g.f1 + 1) + rd xs g.f2 + 1) (by omega) (by omega), if_pos (by omega), if_pos (by omega), if_pos (by omega), w64 ((i : Int) + 1) (by omega) (by omega), ← et]
    generalize tab9 g (rd xs g.f1) (rd xs g.f2) = v at *
    have e := ih k (i + 1) (xs ++ [v]) (by omega) (by omega) (by simp; omega) (by
      intro x hx
      rcases List.mem_append.1 hx with hx | hx
      · exact hd x hx
      · rw [List.mem_singleton.1 hx]; exact m3) (by rw [show n + ((i + 1 : Nat) : Int) = n + i + 1 by omega]; exact ho.2)
    rw [show ((i + 1 : Nat) : Int) = (i : Int) + 1 from by omega] at e
    exact e
/-- The lines of a circuit, and whether it has such inputs. -/
def linesOf (a : Int) (gs : List S46) (os xs : List Int) : List Int × Bool := if isCirc a gs os = true ∧ (xs.length : Int) = a ∧ isT9 xs = true then (linesL ([-1, 0, 1] ++ xs) gs, true) else ([], false)
theorem lines_start {xs : List Int} (h : isT9 xs = true) : ∀ x, x ∈ [-1, 0, 1] ++ xs → -1 ≤ x ∧ x ≤ 1 := by
  intro x hx
  rcases List.mem_append.1 hx with hx | hx
  · simp only [List.mem_cons, List.not_mem_nil, or_false] at hx
    omega
  · exact isT9_mem h hx
theorem impl_LinesOf_f (k : Nat) (a : Int) (gs : List S46) (os xs : List Int) (hk : 4000001 ≤ k) (hx : xs.length ≤ 2000000) : impl_LinesOf.f k a gs os xs = some (linesOf a gs os xs) := by
  unfold impl_LinesOf.f linesOf
  rw [impl_IsCircuit_f k a gs os (by omega), bsome]
  cases h : isCirc a gs os with
  | false => rw [if_neg (by decide), if_neg (fun h => by cases h.1)]
  | true =>
    rw [if_pos rfl]
    by_cases c : (xs.length : Int) = a
    · rw [if_pos c, impl_trits_g k xs (by omega) hx, bsome]
      cases t : isT9 xs with
      | false => rw [if_neg (by decide), if_neg (fun h => by cases h.2.2)]
      | true =>
        obtain ⟨a0, a1, g1, _, hg, _⟩ := isCirc_parts h
        rw [if_pos rfl, if_pos ⟨rfl, c, rfl⟩]
        unfold impl_lines.f
        rw [slices_Concat_f2 k [-1, 0, 1] xs (by omega) (by simp) hx, bsome]
        have e := impl_lines_l0 (3 + a) gs (by omega) (by omega) g1 gs.length k 0 ([-1, 0, 1] ++ xs) (by omega) (by omega) (by simp only [List.length_append, List.length_cons, List.length_nil]; omega) (lines_start t) (by simpa using hg)
        simp only [List.drop_zero, Int.natCast_zero] at e
        rw [e, bsome]
    · rw [if_neg c, if_neg (fun h => c h.2.1)]
theorem spec_LinesOf_l0 (a : Int) (gs : List S46) (os xs : List Int) (r : List Int) (K : Nat) (hx : xs.length ≤ 2000000) (hr : ∀ k, K ≤ k → spec_l6Lines.f k a gs os xs = some r) : ∀ (d k i : Nat), i + d = xs.length → d + K < k →
    spec_LinesOf.l0 k xs xs (xs.length : Int) (i : Int) a gs os = some (if isT9 (xs.drop i) = true then (r, true) else ([], false)) := by
  intro d
  induction d with
  | zero =>
    intro k i h hk
    obtain ⟨k, rfl⟩ : ∃ m, k = m + 1 := ⟨k - 1, by omega⟩
    simp only [spec_LinesOf.l0]
    rw [if_neg (by omega), List.drop_eq_nil_of_le (by omega), hr k (by omega), bsome]; rfl
  | succ d ih =>
    intro k i h hk
    obtain ⟨k, rfl⟩ : ∃ m, k = m + 1 := ⟨k - 1, by omega⟩
    simp only [spec_LinesOf.l0]
    rw [if_pos (by omega), if_pos (by omega), if_pos (by omega), spec_trB, bsome, drop_rd xs i (by omega), w64 _ (by omega) (by omega), show (i : Int) + 1 = ((i + 1 : Nat) : Int) from by omega, ih k (i + 1) (by omega) (by omega)]
    cases t : trB (rd xs (i : Int)) with
    | false => rw [if_neg (by decide)]; simp [isT9, t]
    | true => rw [if_pos rfl]; simp [isT9, t]
theorem spec_LinesOf_f (k : Nat) (a : Int) (gs : List S46) (os xs : List Int) (hk : 4000001 ≤ k) (hx : xs.length ≤ 2000000) : spec_LinesOf.f k a gs os xs = some (linesOf a gs os xs) := by
  unfold spec_LinesOf.f linesOf
  rw [spec_IsCircuit_f k a gs os (by omega), bsome]
  obtain ⟨k, rfl⟩ : ∃ m, k = m + 1 := ⟨k - 1, by omega⟩
  cases h : isCirc a gs os with
  | false =>
    rw [if_neg (by decide), if_neg (fun h => by cases h.1)]
    simp only [spec_LinesOf.j0]
    exact if_pos trivial
  | true =>
    rw [if_pos rfl]
    simp only [spec_LinesOf.j0]
    by_cases c : (xs.length : Int) = a
    · rw [if_neg (by simp [c])]
      obtain ⟨a0, a1, g1, _, hg, _⟩ := isCirc_parts h
      cases t : isT9 xs with
      | false =>
        rw [if_neg (fun h => by cases h.2.2)]
        have gen : ∀ (d k i : Nat), i + d = xs.length → d < k → isT9 (xs.drop i) = false → spec_LinesOf.l0 k xs xs (xs.length : Int) (i : Int) a gs os = some ([], false) := by
          intro d
          induction d with
          | zero => intro k i h hk hf; rw [List.drop_eq_nil_of_le (by omega)] at hf; cases hf
          | succ d ih =>
            intro k i h hk hf
            obtain ⟨k, rfl⟩ : ∃ m, k = m + 1 := ⟨k - 1, by omega⟩
            simp only [spec_LinesOf.l0]
            rw [drop_rd xs i (by omega)] at hf
            rw [if_pos (by omega), if_pos (by omega), if_pos (by omega), spec_trB, bsome, w64 _ (by omega) (by omega), show (i : Int) + 1 = ((i + 1 : Nat) : Int) from by omega]
            cases t : trB (rd xs (i : Int)) with
            | false => rw [if_neg (by decide)]
            | true =>
              rw [if_pos rfl]
              exact ih k (i + 1) (by omega) (by omega) (by simpa [isT9, t] using hf)
        have := gen xs.length k 0 (by omega) (by omega) (by simpa using t)
        simpa using this
      | true =>
        rw [if_pos ⟨by trivial, c, by trivial⟩]
        have hr : ∀ k, 100 ≤ k → spec_l6Lines.f k a gs os xs = some (linesL ([-1, 0, 1] ++ xs) gs) := by
          intro k hk
          unfold spec_l6Lines.f
          rw [bsome, if_pos (by simp; omega)]
          have e := spec_l6Lines_l0 (3 + a) gs (by omega) (by omega) g1 gs.length k 0 ([-1, 0, 1] ++ xs) (by omega) (by omega) (by simp only [List.length_append, List.length_cons, List.length_nil]; omega) (lines_start t) (by simpa using hg)
          simpa using e
        have e := spec_LinesOf_l0 a gs os xs _ 100 hx hr xs.length k 0 (by omega) (by omega)
        simp only [List.drop_zero, Int.natCast_zero, t, if_pos] at e
        exact e
    · rw [if_pos (by simp [c]), if_neg (fun h => c h.2.1)]
/-- What a circuit gives for inputs. -/
def runOf (a : Int) (gs : List S46) (os xs : List Int) : List Int × Bool := if (linesOf a gs os xs).2 = true then (os.map fun x => rd (linesOf a gs os xs).1 x, true) else ([], false)
theorem runOf_len (a : Int) (gs : List S46) (os xs : List Int) : (runOf a gs os xs).1.length ≤ 1000 := by
  unfold runOf
  split
  · rename_i h
    unfold linesOf at h
    split at h
    · rename_i h2
      obtain ⟨_, _, _, o1, _, _⟩ := isCirc_parts h2.1
      simp only [List.length_map]; omega
    · cases h
  · simp
theorem okO_drop (n : Int) : ∀ (os : List Int) (i : Nat), okO n os = true → okO n (os.drop i) = true
  | os, 0, h => by simpa using h
  | [], i + 1, h => by simpa using h
  | x :: os, i + 1, h => by
    rw [okO, Bool.and_eq_true] at h
    exact okO_drop n os i h.2
theorem impl_RunCircuit_l0 (ls os : List Int) (ho : os.length ≤ 60) (hok : okO ls.length os = true) : ∀ (d k i : Nat) (acc : List Int), i + d = os.length → d < k → acc.length = i →
    impl_RunCircuit.l0 k ls acc os (os.length : Int) (i : Int) = some (acc ++ (os.drop i).map fun x => rd ls x, true) := by
  intro d
  induction d with
  | zero =>
    intro k i acc h hk ha
    obtain ⟨k, rfl⟩ : ∃ m, k = m + 1 := ⟨k - 1, by omega⟩
    simp only [impl_RunCircuit.l0]
    rw [if_neg (by omega), List.drop_eq_nil_of_le (by omega)]; simp
  | succ d ih =>
    intro k i acc h hk ha
    obtain ⟨k, rfl⟩ : ∃ m, k = m + 1 := ⟨k - 1, by omega⟩
    simp only [impl_RunCircuit.l0]
    have hd := okO_drop _ _ i hok
    rw [drop_rd os i (by omega), okO, Bool.and_eq_true, decide_eq_true_eq] at hd
    rw [if_pos (by omega), if_pos (by omega), if_pos (by omega), if_pos hd.1.1, if_pos hd.1.2, if_pos (by omega), w64 _ (by omega) (by omega), drop_rd os i (by omega), show (i : Int) + 1 = ((i + 1 : Nat) : Int) from by omega, ih k (i + 1) _ (by omega) (by omega) (by simp; omega)]
    simp
theorem spec_RunCircuit_l0 (ls os : List Int) (ho : os.length ≤ 60) (hok : okO ls.length os = true) : ∀ (d k i : Nat) (acc : List Int), i + d = os.length → d < k → acc.length = i →
    spec_RunCircuit.l0 k ls acc os (os.length : Int) (i : Int) = some (acc ++ (os.drop i).map fun x => rd ls x, true) := by
  intro d
  induction d with
  | zero =>
    intro k i acc h hk ha
    obtain ⟨k, rfl⟩ : ∃ m, k = m + 1 := ⟨k - 1, by omega⟩
    simp only [spec_RunCircuit.l0]
    rw [if_neg (by omega), List.drop_eq_nil_of_le (by omega)]; simp
  | succ d ih =>
    intro k i acc h hk ha
    obtain ⟨k, rfl⟩ : ∃ m, k = m + 1 := ⟨k - 1, by omega⟩
    simp only [spec_RunCircuit.l0]
    have hd := okO_drop _ _ i hok
    rw [drop_rd os i (by omega), okO, Bool.and_eq_true, decide_eq_true_eq] at hd
    rw [if_pos (by omega), if_pos (by omega), if_pos (by omega), if_pos hd.1.1, if_pos hd.1.2, if_pos (by omega), w64 _ (by omega) (by omega), drop_rd os i (by omega), show (i : Int) + 1 = ((i + 1 : Nat) : Int) from by omega, ih k (i + 1) _ (by omega) (by omega) (by simp; omega)]
    simp
theorem linesOf_ok {a : Int} {gs : List S46} {os xs : List Int} (h : (linesOf a gs os xs).2 = true) : os.length ≤ 60 ∧ okO (linesOf a gs os xs).1.length os = true := by
  unfold linesOf at h ⊢
  split at h
  · rename_i h2
    rw [if_pos h2]
    obtain ⟨a0, _, _, o1, _, ho⟩ := isCirc_parts h2.1
    refine ⟨o1, ?_⟩
    rw [linesL_len]
    have e : ((([-1, 0, 1] ++ xs).length + gs.length : Nat) : Int) = 3 + a + gs.length := by
      simp only [List.length_append, List.length_cons, List.length_nil]; have := h2.2.1; omega
    rw [e]; exact ho
  · cases h
theorem impl_RunCircuit_f (k : Nat) (a : Int) (gs : List S46) (os xs : List Int) (hk : 4000001 ≤ k) (hx : xs.length ≤ 2000000) : impl_RunCircuit.f k a gs os xs = some (runOf a gs os xs) := by
  unfold impl_RunCircuit.f runOf
  rw [impl_LinesOf_f k a gs os xs hk hx, bsome]
  cases h : (linesOf a gs os xs).2 with
  | false => rw [if_neg (by decide), if_neg (by decide)]
  | true =>
    obtain ⟨o1, ho⟩ := linesOf_ok h
    rw [if_pos rfl, if_pos rfl]
    have := impl_RunCircuit_l0 (linesOf a gs os xs).1 os o1 ho os.length k 0 [] (by omega) (by omega) rfl
    simpa using this
theorem spec_RunCircuit_f (k : Nat) (a : Int) (gs : List S46) (os xs : List Int) (hk : 4000001 ≤ k) (hx : xs.length ≤ 2000000) : spec_RunCircuit.f k a gs os xs = some (runOf a gs os xs) := by
  unfold spec_RunCircuit.f runOf
  rw [spec_LinesOf_f k a gs os xs hk hx, bsome]
  cases h : (linesOf a gs os xs).2 with
  | false => rw [if_neg (by decide), if_neg (by decide)]
  | true =>
    obtain ⟨o1, ho⟩ := linesOf_ok h
    rw [if_pos rfl, if_pos rfl]
    have := spec_RunCircuit_l0 (linesOf a gs os xs).1 os o1 ho os.length k 0 [] (by omega) (by omega) rfl
    simpa using this
/-- The inputs number x of n lines. -/
def digs : Nat → Nat → List Int
  | 0, _ => []
  | n + 1, x => (((x % 3 : Nat) : Int) - 1) :: digs n (x / 3)
/-- The next inputs. -/
def incr : List Int → Option (List Int)
  | [] => none
  | y :: t => if y = 1 then (incr t).map fun z => (-1) :: z else some ((y + 1) :: t)
def allN (P : Nat → Bool) : Nat → Nat → Bool
  | 0, _ => true
  | d + 1, i => P i && allN P d (i + 1)
theorem digs_len : ∀ n x, (digs n x).length = n
  | 0, _ => rfl
  | n + 1, x => by rw [digs, List.length_cons, digs_len n]
theorem digs_trits : ∀ n x, isT9 (digs n x) = true
  | 0, _ => rfl
  | n + 1, x => by
    have : trB (((x % 3 : Nat) : Int) - 1) = true := (trB_iff _).2 (by omega)
    have e := digs_trits n (x / 3)
    unfold isT9 at e ⊢
    rw [digs, List.all_cons, this, e]; rfl
theorem digs_zero : ∀ n, digs n 0 = List.replicate n (-1)
  | 0 => rfl
  | n + 1 => by rw [digs, List.replicate_succ, Nat.zero_div, digs_zero n]; rfl
theorem incr_digs : ∀ n x, x + 1 < 3 ^ n → incr (digs n x) = some (digs n (x + 1))
  | 0, x, h => by simp at h
  | n + 1, x, h => by
    rw [Nat.pow_succ] at h
    rw [digs, incr, digs]
    by_cases c : x % 3 = 2
    · rw [if_pos (by rw [c]; rfl), incr_digs n (x / 3) (by omega), show (x + 1) % 3 = 0 by omega, show (x + 1) / 3 = x / 3 + 1 by omega]
      rfl
    · rw [if_neg (by omega), show (x + 1) % 3 = x % 3 + 1 by omega, show (x + 1) / 3 = x / 3 by omega]
      congr 2
      omega
theorem incr_last : ∀ n x, x + 1 = 3 ^ n → incr (digs n x) = none
  | 0, x, h => rfl
  | n + 1, x, h => by
    rw [Nat.pow_succ] at h
    have hp : 0 < 3 ^ n := Nat.pow_pos (by omega)
    rw [digs, incr, if_pos (by omega), incr_last n (x / 3) (by omega)]
    rfl
theorem impl_power_g (n : Nat) (hn : n ≤ 8) : ∀ (d k i : Nat), i + d = n → d < k → impl_power.l0 k ((3 ^ i : Nat) : Int) (n : Int) (i : Int) = some ((3 ^ n : Nat) : Int) := by
  intro d
  induction d with
  | zero =>
    intro k i h hk
    obtain ⟨k, rfl⟩ : ∃ m, k = m + 1 := ⟨k - 1, by omega⟩
    simp only [impl_power.l0]
    rw [if_neg (by omega), show i = n by omega]
  | succ d ih =>
    intro k i h hk
    obtain ⟨k, rfl⟩ : ∃ m, k = m + 1 := ⟨k - 1, by omega⟩
    simp only [impl_power.l0]
    have hp : 3 ^ i ≤ 3 ^ 8 := Nat.pow_le_pow_right (by omega) (by omega)
    have hp2 : (3 : Nat) ^ 8 = 6561 := by decide
    have e := ih k (i + 1) (by omega) (by omega)
    rw [Nat.pow_succ] at e
    generalize 3 ^ i = p at *
    rw [if_pos (by omega), w64 _ (by omega) (by omega), w64 _ (by omega) (by omega), show (p : Int) * 3 = ((p * 3 : Nat) : Int) by omega, show (i : Int) + 1 = ((i + 1 : Nat) : Int) from by omega]
    exact e
theorem slices_Equal_l0 (a b : List Int) (hl : a.length ≤ 2000000) (hb : a.length = b.length) : ∀ (d k i : Nat), i + d = a.length → d < k →
    slices_Equal_int_int.l0 k a b (a.length : Int) (i : Int) = some (decide (a.drop i = b.drop i)) := by
  intro d
  induction d with
  | zero =>
    intro k i h hk
    obtain ⟨k, rfl⟩ : ∃ m, k = m + 1 := ⟨k - 1, by omega⟩
    simp only [slices_Equal_int_int.l0]
    rw [if_neg (by omega), List.drop_eq_nil_of_le (by omega), List.drop_eq_nil_of_le (by omega)]; simp
  | succ d ih =>
    intro k i h hk
    obtain ⟨k, rfl⟩ : ∃ m, k = m + 1 := ⟨k - 1, by omega⟩
    simp only [slices_Equal_int_int.l0]
    rw [if_pos (by omega), if_pos (by omega), if_pos (by omega), if_pos (by omega), drop_rd a i (by omega), drop_rd b i (by omega), w64 _ (by omega) (by omega)]
    by_cases c : rd a (i : Int) = rd b (i : Int)
    · rw [if_pos c, show (i : Int) + 1 = ((i + 1 : Nat) : Int) from by omega, ih k (i + 1) (by omega) (by omega)]
      simp [c]
    · rw [if_neg c]; simp [c]
theorem slices_Equal_f (k : Nat) (a b : List Int) (hk : 2000001 ≤ k) (hl : a.length ≤ 2000000) : slices_Equal_int_int.f k a b = some (decide (a = b)) := by
  unfold slices_Equal_int_int.f
  by_cases h : a.length = b.length
  · rw [if_pos (by omega)]
    have := slices_Equal_l0 a b hl h a.length k 0 (by omega) (by omega)
    simpa using this
  · rw [if_neg (by omega)]
    have : a ≠ b := fun e => h (by rw [e])
    simp [this]
def sameAt (n : Nat) (a : Int) (gs : List S46) (os : List Int) (b : Int) (hs : List S46) (ps : List Int) (i : Nat) : Bool := decide ((runOf a gs os (digs n i)).1 = (runOf b hs ps (digs n i)).1)
theorem impl_Same_l1 (n : Nat) (hn : n ≤ 8) (a b : Int) (gs hs : List S46) (os ps : List Int) (m i0 : Int) (r : Bool) (K : Nat) (full : List Int)
    (hr : ∀ k, K ≤ k → ((impl_RunCircuit.f k a gs os full).bind fun bt112 => ((impl_RunCircuit.f k b hs ps full).bind fun bt116 => ((slices_Equal_int_int.f k bt112.1 bt116.1).bind fun t120 => (if t120 = true then (impl_SameCircuits.l0 k m (wrap64 (i0 + 1)) a gs os b hs ps) else (some false))))) = some r) :
    ∀ (d k j x : Nat) (acc : List Int), j + d = n → d + K < k → acc.length = j → x ≤ 1000000 → acc ++ digs d x = full →
    impl_SameCircuits.l1 k (x : Int) acc m i0 (n : Int) (j : Int) a gs os b hs ps = some r := by
  intro d
  induction d with
  | zero =>
    intro k j x acc h hk ha hx hf
    obtain ⟨k, rfl⟩ : ∃ m, k = m + 1 := ⟨k - 1, by omega⟩
    simp only [impl_SameCircuits.l1]
    rw [digs, List.append_nil] at hf
    rw [if_neg (by omega), hf]
    exact hr k (by omega)
  | succ d ih =>
    intro k j x acc h hk ha hx hf
    obtain ⟨k, rfl⟩ : ∃ m, k = m + 1 := ⟨k - 1, by omega⟩
    simp only [impl_SameCircuits.l1]
    have e1 : Int.tdiv (x : Int) 3 = ((x / 3 : Nat) : Int) := by rw [Int.tdiv_eq_ediv_of_nonneg (by omega)]; omega
    have e2 : Int.tmod (x : Int) 3 = ((x % 3 : Nat) : Int) := by rw [Int.tmod_eq_emod_of_nonneg (by omega)]; omega
    rw [if_pos (by omega), if_pos (by omega), e1, e2, w64 ((x / 3 : Nat) : Int) (by omega) (by omega), w64 _ (by omega) (by omega), w64 ((j : Int) + 1) (by omega) (by omega), show (j : Int) + 1 = ((j + 1 : Nat) : Int) from by omega]
    exact ih k (j + 1) (x / 3) _ (by omega) (by omega) (by simp; omega) (by omega) (by rw [List.append_assoc]; exact hf)
theorem impl_Same_l0 (n : Nat) (hn : n ≤ 8) (b : Int) (gs hs : List S46) (os ps : List Int) : ∀ (d k i : Nat), i + d = 3 ^ n → d * 10 + 4000100 < k →
    impl_SameCircuits.l0 k ((3 ^ n : Nat) : Int) (i : Int) (n : Int) gs os b hs ps = some (allN (sameAt n n gs os b hs ps) d i) := by
  have hp : 3 ^ n ≤ 3 ^ 8 := Nat.pow_le_pow_right (by omega) hn
  have hp2 : (3 : Nat) ^ 8 = 6561 := by decide
  intro d
  induction d with
  | zero =>
    intro k i h hk
    obtain ⟨k, rfl⟩ : ∃ m, k = m + 1 := ⟨k - 1, by omega⟩
    simp only [impl_SameCircuits.l0]
    rw [if_neg (by omega)]; rfl
  | succ d ih =>
    intro k i h hk
    obtain ⟨k, rfl⟩ : ∃ m, k = m + 1 := ⟨k - 1, by omega⟩
    simp only [impl_SameCircuits.l0]
    rw [if_pos (by omega)]
    obtain ⟨K, hK⟩ : ∃ K, K = d * 10 + 4000101 := ⟨_, rfl⟩
    have e := impl_Same_l1 n hn (n : Int) b gs hs os ps ((3 ^ n : Nat) : Int) (i : Int) (allN (sameAt n n gs os b hs ps) (d + 1) i) K (digs n i) (fun k hk => by
      rw [impl_RunCircuit_f k n gs os _ (by omega) (by rw [digs_len]; omega), bsome, impl_RunCircuit_f k b hs ps _ (by omega) (by rw [digs_len]; omega), bsome, slices_Equal_f k _ _ (by omega) (by have := runOf_len n gs os (digs n i); omega), bsome, w64 _ (by omega) (by omega), show (i : Int) + 1 = ((i + 1 : Nat) : Int) from by omega, ih k (i + 1) (by omega) (by omega), allN, sameAt]
      by_cases c : (runOf n gs os (digs n i)).1 = (runOf b hs ps (digs n i)).1
      · rw [decide_eq_true c, if_pos rfl]; rfl
      · rw [decide_eq_false c, if_neg (by decide)]; rfl) n k 0 i [] (by omega) (by omega) rfl (by omega) rfl
    simpa using e
theorem spec_Same_l3 (a b : Int) (gs hs : List S46) (os ps : List Int) (n : Nat) (hn : n ≤ 8) (r : Bool) (K : Nat) : ∀ (d k i : Nat) (rest : List Int), i + d = n → rest.length = d → d + K < k → (∀ x, x ∈ rest → -1 ≤ x ∧ x ≤ 1) →
    (incr rest = none → r = true) → (∀ t, incr rest = some t → ∀ k, K ≤ k → spec_SameCircuits.l1 k (List.replicate i (-1) ++ t) a gs os b hs ps = some r) →
    spec_SameCircuits.l3 k (List.replicate i (-1) ++ rest) (i : Int) a gs os b hs ps = some r := by
  intro d
  induction d with
  | zero =>
    intro k i rest h hl hk ht h1 h2
    obtain ⟨k, rfl⟩ : ∃ m, k = m + 1 := ⟨k - 1, by omega⟩
    obtain rfl := List.length_eq_zero_iff.1 hl
    simp only [spec_SameCircuits.l3]
    rw [if_neg (by simp), if_pos (by simp), h1 rfl]
  | succ d ih =>
    intro k i rest h hl hk ht h1 h2
    obtain ⟨k, rfl⟩ : ∃ m, k = m + 1 := ⟨k - 1, by omega⟩
    obtain ⟨y, t, rfl⟩ : ∃ y t, rest = y :: t := by
      cases rest with
      | nil => simp at hl
      | cons y t => exact ⟨y, t, rfl⟩
    simp only [List.length_cons] at hl
    have hy := ht y List.mem_cons_self
    have er : rd (List.replicate i (-1) ++ y :: t) (i : Int) = y := by
      have := rd_append_len (List.replicate i (-1)) y t
      rwa [List.length_replicate] at this
    have es : ∀ z, (List.replicate i (-1) ++ y :: t).set (i : Int).toNat z = List.replicate i (-1) ++ z :: t := by
      intro z
      have := set_append_len (List.replicate i (-1)) y z t
      rwa [List.length_replicate] at this
    simp only [spec_SameCircuits.l3]
    rw [if_pos (by simp; omega), if_pos (by omega), er, es, es]
    by_cases c : y = 1
    · rw [if_pos c, w64 _ (by omega) (by omega), show (i : Int) + 1 = ((i + 1 : Nat) : Int) from by omega, show List.replicate i (-1 : Int) ++ -1 :: t = List.replicate (i + 1) (-1) ++ t by rw [List.replicate_succ', List.append_assoc]; rfl]
      refine ih k (i + 1) t (by omega) (by omega) (by omega) (fun x hx => ht x (List.mem_cons_of_mem _ hx)) (fun hz => h1 (by rw [incr, if_pos c, hz]; rfl)) (fun z hz k hk => ?_)
      have := h2 (-1 :: z) (by rw [incr, if_pos c, hz]; rfl) k hk
      rw [List.replicate_succ', List.append_assoc]; exact this
    · rw [if_neg c, if_neg (by simp; omega), w64 _ (by omega) (by omega)]
      exact h2 ((y + 1) :: t) (by rw [incr, if_neg c]) k (by omega)
theorem spec_Same_l2 (v X Y : List Int) (a b : Int) (gs hs : List S46) (os ps : List Int) (hX : X.length ≤ 2000000) (hXY : X.length = Y.length) (r : Bool) (K : Nat) (hr : ∀ k, K ≤ k → spec_SameCircuits.l3 k v 0 a gs os b hs ps = some r) : ∀ (d k i : Nat), i + d = X.length → d + K < k →
    spec_SameCircuits.l2 k v X Y (X.length : Int) (i : Int) a gs os b hs ps = some (decide (X.drop i = Y.drop i) && r) := by
  intro d
  induction d with
  | zero =>
    intro k i h hk
    obtain ⟨k, rfl⟩ : ∃ m, k = m + 1 := ⟨k - 1, by omega⟩
    simp only [spec_SameCircuits.l2]
    rw [if_neg (by omega), List.drop_eq_nil_of_le (by omega), List.drop_eq_nil_of_le (by omega), hr k (by omega)]; simp
  | succ d ih =>
    intro k i h hk
    obtain ⟨k, rfl⟩ : ∃ m, k = m + 1 := ⟨k - 1, by omega⟩
    simp only [spec_SameCircuits.l2]
    rw [if_pos (by omega), if_pos (by omega), if_pos (by omega), if_pos (by omega), drop_rd X i (by omega), drop_rd Y i (by omega), w64 _ (by omega) (by omega)]
    by_cases c : rd X (i : Int) = rd Y (i : Int)
    · rw [if_pos c, show (i : Int) + 1 = ((i + 1 : Nat) : Int) from by omega, ih k (i + 1) (by omega) (by omega)]
      simp [c]
    · rw [if_neg c]; simp [c]
theorem spec_Same_l1 (n : Nat) (hn : n ≤ 8) (b : Int) (gs hs : List S46) (os ps : List Int) (hl : ∀ v, v.length = n → isT9 v = true → (runOf n gs os v).1.length = (runOf b hs ps v).1.length) : ∀ (d k i : Nat), i + (d + 1) = 3 ^ n → d * 2000 + 4010000 < k →
    spec_SameCircuits.l1 k (digs n i) (n : Int) gs os b hs ps = some (allN (sameAt n n gs os b hs ps) (d + 1) i) := by
  intro d
  induction d with
  | zero =>
    intro k i h hk
    obtain ⟨k, rfl⟩ : ∃ m, k = m + 1 := ⟨k - 1, by omega⟩
    simp only [spec_SameCircuits.l1]
    rw [spec_RunCircuit_f k n gs os _ (by omega) (by rw [digs_len]; omega), bsome, spec_RunCircuit_f k b hs ps _ (by omega) (by rw [digs_len]; omega), bsome]
    have hx := runOf_len n gs os (digs n i)
    have e := spec_Same_l2 (digs n i) (runOf n gs os (digs n i)).1 (runOf b hs ps (digs n i)).1 n b gs hs os ps (by omega) (hl _ (digs_len _ _) (digs_trits _ _)) true 100 (fun k hk => by
      have e := spec_Same_l3 n b gs hs os ps n hn true 50 n k 0 (digs n i) (by omega) (digs_len _ _) (by omega) (fun x hx => isT9_mem (digs_trits n i) hx) (fun _ => rfl) (fun t ht => by rw [incr_last n i (by omega)] at ht; cases ht)
      simpa using e) (runOf n gs os (digs n i)).1.length k 0 (by omega) (by omega)
    simp only [Int.natCast_zero, List.drop_zero] at e
    rw [e]; rfl
  | succ d ih =>
    intro k i h hk
    obtain ⟨k, rfl⟩ : ∃ m, k = m + 1 := ⟨k - 1, by omega⟩
    simp only [spec_SameCircuits.l1]
    rw [spec_RunCircuit_f k n gs os _ (by omega) (by rw [digs_len]; omega), bsome, spec_RunCircuit_f k b hs ps _ (by omega) (by rw [digs_len]; omega), bsome]
    have hx := runOf_len n gs os (digs n i)
    obtain ⟨K, hK⟩ : ∃ K, K = d * 2000 + 4010001 := ⟨_, rfl⟩
    obtain ⟨K2, hK2⟩ : ∃ K2, K2 = K + 99 := ⟨_, rfl⟩
    have e := spec_Same_l2 (digs n i) (runOf n gs os (digs n i)).1 (runOf b hs ps (digs n i)).1 n b gs hs os ps (by omega) (hl _ (digs_len _ _) (digs_trits _ _)) (allN (sameAt n n gs os b hs ps) (d + 1) (i + 1)) K2 (fun k hk => by
      have e := spec_Same_l3 n b gs hs os ps n hn (allN (sameAt n n gs os b hs ps) (d + 1) (i + 1)) K n k 0 (digs n i) (by omega) (digs_len _ _) (by omega) (fun x hx => isT9_mem (digs_trits n i) hx) (fun hz => by rw [incr_digs n i (by omega)] at hz; cases hz) (fun t ht k hk => by
        rw [incr_digs n i (by omega)] at ht
        obtain rfl := Option.some.inj ht
        have := ih k (i + 1) (by omega) (Nat.lt_of_lt_of_le (by rw [hK]; exact Nat.lt_succ_self _) hk)
        simpa using this)
      simpa using e) (runOf n gs os (digs n i)).1.length k 0 (by omega) (by omega)
    simp only [Int.natCast_zero, List.drop_zero] at e
    rw [e]; rfl
theorem spec_Same_l0 (a b : Int) (gs hs : List S46) (os ps : List Int) (n : Nat) (hn : n ≤ 8) (r : Bool) (K : Nat) (hr : ∀ k, K ≤ k → spec_SameCircuits.l1 k (List.replicate n (-1)) a gs os b hs ps = some r) : ∀ (d k i : Nat), i + d = n → d + K < k →
    spec_SameCircuits.l0 k (List.replicate i (-1) ++ List.replicate d 0) (n : Int) (i : Int) a gs os b hs ps = some r := by
  intro d
  induction d with
  | zero =>
    intro k i h hk
    obtain ⟨k, rfl⟩ : ∃ m, k = m + 1 := ⟨k - 1, by omega⟩
    simp only [spec_SameCircuits.l0]
    rw [if_neg (by omega), show i = n by omega, List.replicate_zero, List.append_nil]
    exact hr k (by omega)
  | succ d ih =>
    intro k i h hk
    obtain ⟨k, rfl⟩ : ∃ m, k = m + 1 := ⟨k - 1, by omega⟩
    simp only [spec_SameCircuits.l0]
    have es : (List.replicate i (-1 : Int) ++ List.replicate (d + 1) 0).set (i : Int).toNat (-1) = List.replicate (i + 1) (-1) ++ List.replicate d 0 := by
      have := set_append_len (List.replicate i (-1)) 0 (-1) (List.replicate d 0)
      simp only [List.length_replicate] at this
      rw [Int.toNat_natCast, List.replicate_succ, this, List.replicate_succ', List.append_assoc]; rfl
    rw [if_pos (by omega), if_pos (by omega), if_pos (by simp; omega), es, w64 _ (by omega) (by omega), show (i : Int) + 1 = ((i + 1 : Nat) : Int) from by omega]
    exact ih k (i + 1) (by omega) (by omega)
theorem SameCircuits_f (k : Nat) (a b : Int) (gs hs : List S46) (os ps : List Int) (hk : 90000000 ≤ k) : ∃ r, spec_SameCircuits.f k a gs os b hs ps = some r ∧ impl_SameCircuits.f k a gs os b hs ps = some r := by
  unfold spec_SameCircuits.f impl_SameCircuits.f
  obtain ⟨k, rfl⟩ : ∃ m, k = m + 1 := ⟨k - 1, by omega⟩
  have no : spec_SameCircuits.j0 (k + 1) true a gs os b hs ps = some false ∧ impl_SameCircuits.j0 (k + 1) true a gs os b hs ps = some false := by
    simp only [spec_SameCircuits.j0, impl_SameCircuits.j0, if_true, and_self]
  rw [spec_IsCircuit_f _ a gs os (by omega), impl_IsCircuit_f _ a gs os (by omega), bsome, bsome]
  cases h1 : isCirc a gs os with
  | false => exact ⟨false, by rw [if_neg (by decide)]; exact no.1, by rw [if_neg (by decide)]; exact no.2⟩
  | true =>
    rw [if_pos rfl, if_pos rfl, spec_IsCircuit_f _ b hs ps (by omega), impl_IsCircuit_f _ b hs ps (by omega), bsome, bsome]
    cases h2 : isCirc b hs ps with
    | false => exact ⟨false, by rw [if_neg (by decide)]; exact no.1, by rw [if_neg (by decide)]; exact no.2⟩
    | true =>
      rw [if_pos rfl, if_pos rfl]
      by_cases h3 : a = b
      · rw [if_pos h3, if_pos h3]
        by_cases h4 : (os.length : Int) = (ps.length : Int)
        · rw [if_pos h4, if_pos h4]
          by_cases h5 : a > 6
          · rw [decide_eq_true h5]; exact ⟨false, no.1, no.2⟩
          · rw [decide_eq_false h5]
            subst h3
            obtain ⟨a0, _, _, _, _, _⟩ := isCirc_parts h1
            obtain ⟨n, rfl⟩ := Int.eq_ofNat_of_zero_le a0
            have hn : n ≤ 6 := by omega
            have hp : 3 ^ n ≤ 3 ^ 6 := Nat.pow_le_pow_right (by omega) hn
            have hp2 : (3 : Nat) ^ 6 = 729 := by decide
            have hp3 : 0 < 3 ^ n := Nat.pow_pos (by omega)
            obtain ⟨m, hm⟩ : ∃ m, 3 ^ n = m + 1 := ⟨3 ^ n - 1, by omega⟩
            refine ⟨allN (sameAt n n gs os n hs ps) (3 ^ n) 0, ?_, ?_⟩
            · simp only [spec_SameCircuits.j0]
              have hl : ∀ v, v.length = n → isT9 v = true → (runOf n gs os v).1.length = (runOf n hs ps v).1.length := by
                intro v hv ht
                unfold runOf linesOf
                simp only [if_pos (show isCirc (n : Int) gs os = true ∧ (v.length : Int) = n ∧ isT9 v = true from ⟨h1, by omega, ht⟩), if_pos (show isCirc (n : Int) hs ps = true ∧ (v.length : Int) = n ∧ isT9 v = true from ⟨h2, by omega, ht⟩), if_true, List.length_map]
                omega
              have e1 := spec_Same_l0 n n gs hs os ps n (by omega) (allN (sameAt n n gs os n hs ps) (3 ^ n) 0) 80000000 (fun k hk => by
                have e := spec_Same_l1 n (by omega) n gs hs os ps hl m k 0 (by omega) (by omega)
                rw [digs_zero, ← hm] at e
                exact e) n k 0 (by omega) (by omega)
              simp only [List.replicate_zero, List.nil_append, Int.natCast_zero] at e1
              rw [if_neg (by decide), if_pos (by omega), if_pos (by omega), bsome, Int.toNat_natCast, List.length_replicate]
              exact e1
            · simp only [impl_SameCircuits.j0]
              have ep : impl_power.f k (n : Int) = some ((3 ^ n : Nat) : Int) := by
                unfold impl_power.f
                have := impl_power_g n (by omega) n k 0 (by omega) (by omega)
                simpa using this
              rw [if_neg (by decide), ep, bsome]
              have e := impl_Same_l0 n (by omega) n gs hs os ps (3 ^ n) k 0 (by omega) (by omega)
              simpa using e
        · exact ⟨false, by rw [if_neg h4]; exact no.1, by rw [if_neg h4]; exact no.2⟩
      · exact ⟨false, by rw [if_neg h3]; exact no.1, by rw [if_neg h3]; exact no.2⟩
end FnExactSameCircuitsParts
open FnExactSameCircuitsParts
attribute [local congr] bind_left

theorem FnExactSameCircuits : laws_FnExactSameCircuits.Pure := by
  intro a l m b l2 m2 _ hl hm _ hl2 hm2
  obtain ⟨K, hK⟩ : ∃ K, 100000000 ≤ K := ⟨_, Nat.le_refl _⟩
  refine ⟨K + 4, ?_⟩
  unfold laws_FnExactSameCircuits.f
  obtain ⟨v, ev, hv⟩ := laws_szCircuit_f a l m 1048576 hl.1 hm.1 (by omega) (by omega)
  rw [ev, bsome]
  by_cases h0 : v < 0
  · rw [if_pos h0]
  · obtain ⟨v2, ev2, hv2⟩ := laws_szCircuit_f b l2 m2 v hl2.1 hm2.1 (by omega) (by omega)
    rw [if_neg h0, ev2, bsome]
    by_cases h1 : v2 < 0
    · rw [if_pos h1]
    · have hb : (l.length : Int) ≤ 1048576 ∧ (m.length : Int) ≤ 1048576 := by omega
      have hb2 : (l2.length : Int) ≤ 1048576 ∧ (m2.length : Int) ≤ 1048576 := by omega
      obtain ⟨r, e1, e2⟩ := SameCircuits_f (K + 4) a b (l.map gOf) (l2.map gOf) m m2 (by omega)
      rw [if_neg h1, laws_toCircuit_f _ a l m (by omega) (by omega) (by omega), bsome, laws_toCircuit_f _ b l2 m2 (by omega) (by omega) (by omega), bsome, e1, bsome, bsome, bsome, e2, bsome, if_neg (by simp), bsome]
      rw [laws_eqCircuit_same _ a (l.map gOf) m (by omega) (by rw [List.length_map]; omega) (by omega), bsome, if_pos rfl, bsome, laws_eqCircuit_same _ b (l2.map gOf) m2 (by omega) (by rw [List.length_map]; omega) (by omega), bsome, if_pos rfl]

end Go.Proofs.Ytaopbkbjfmfcdaa.Pure
