/- For all circuits the program's DualCircuit gives what the reference gives, changes no argument, and shares no memory; no condition. -/
import Derived.Test.YtaopbkbjfmfcdaaZSdPSg15
import Derived.Test.YtaopbkbjfmfcdaaZSdGlue
namespace Go.Proofs.Ytaopbkbjfmfcdaa.Pure
open Go.RowKit Go.Proofs.Ytaopbkbjfmfcdaa.Tern Go.Proofs.Ytaopbkbjfmfcdaa.P Go.Proofs.YtaopbkbjfmfcdaaW.PrintWords Go.Proofs.YtaopbkbjfmfcdaaW.PrintLast
set_option linter.unusedVariables false
set_option linter.unusedSimpArgs false

namespace FnExactDualCircuitParts
theorem spec_l1In_f (x a b : Int) : spec_l1In.f x a b = some (decide (a ≤ x ∧ x ≤ b)) := by
  unfold spec_l1In.f
  split
  · rename_i h
    simp [show a ≤ x from h]
  · rename_i h
    have : ¬ (a ≤ x) := h
    simp [this]
theorem laws_toIntS_l0 (l : List Int) (hl : l.length ≤ 2000000) : ∀ (d k i : Nat), i + d = l.length → d < k →
    laws_toIntS.l0 k l (l.take i ++ List.replicate d 0) (i : Int) = some l := by
  intro d
  induction d with
  | zero =>
    intro k i h hk
    obtain ⟨k, rfl⟩ : ∃ m, k = m + 1 := ⟨k - 1, by omega⟩
    simp only [laws_toIntS.l0]
    rw [if_neg (by omega)]; simp [List.take_of_length_le (show l.length ≤ i by omega)]
  | succ d ih =>
    intro k i h hk
    obtain ⟨k, rfl⟩ : ∃ m, k = m + 1 := ⟨k - 1, by omega⟩
    have hlen : (l.take i).length = i := by rw [List.length_take]; omega
    simp only [laws_toIntS.l0]
    rw [if_pos (by omega), if_pos (by omega), if_pos (by rw [List.length_append, List.length_replicate, hlen]; omega), w64 _ (by omega) (by omega)]
    have e : (l.take i ++ List.replicate (d + 1) (0 : Int)).set (i : Int).toNat (rd l (i : Int)) = l.take (i + 1) ++ List.replicate d 0 := by
      have h1 := set_append_len (l.take i) 0 (rd l (i : Int)) (List.replicate d 0)
      rw [hlen] at h1
      rw [Int.toNat_natCast, List.replicate_succ, h1, take_rd l i (by omega), List.append_assoc]; rfl
    rw [e, show (i : Int) + 1 = ((i + 1 : Nat) : Int) from by omega]
    exact ih k (i + 1) (by omega) (by omega)
theorem laws_toIntS_f (k : Nat) (l : List Int) (hk : 2000001 ≤ k) (hl : l.length ≤ 2000000) : laws_toIntS.f k l = some l := by
  unfold laws_toIntS.f
  rw [if_pos (by omega), if_pos (by omega)]
  have := laws_toIntS_l0 l hl l.length k 0 (by omega) (by omega)
  simpa using this
theorem laws_eqIntS_l0 (a b : List Int) (hl : a.length ≤ 2000000) (hb : a.length = b.length) : ∀ (d k i : Nat), i + d = a.length → d < k →
    laws_eqIntS.l0 k a b (i : Int) = some (decide (a.drop i = b.drop i)) := by
  intro d
  induction d with
  | zero =>
    intro k i h hk
    obtain ⟨k, rfl⟩ : ∃ m, k = m + 1 := ⟨k - 1, by omega⟩
    simp only [laws_eqIntS.l0]
    rw [if_neg (by omega), List.drop_eq_nil_of_le (by omega), List.drop_eq_nil_of_le (by omega)]; simp
  | succ d ih =>
    intro k i h hk
    obtain ⟨k, rfl⟩ : ∃ m, k = m + 1 := ⟨k - 1, by omega⟩
    simp only [laws_eqIntS.l0]
    rw [if_pos (by omega), if_pos (by omega), if_pos (by omega), drop_rd a i (by omega), drop_rd b i (by omega), w64 _ (by omega) (by omega)]
    by_cases c : rd a (i : Int) = rd b (i : Int)
    · rw [if_pos c, show (i : Int) + 1 = ((i + 1 : Nat) : Int) from by omega, ih k (i + 1) (by omega) (by omega)]
      simp [c]
    · rw [if_neg c]; simp [c]
theorem laws_eqIntS_f (k : Nat) (a b : List Int) (hk : 2000001 ≤ k) (hl : a.length ≤ 2000000) : laws_eqIntS.f k a b = some (decide (a = b)) := by
  unfold laws_eqIntS.f
  by_cases h : a.length = b.length
  · rw [if_pos (by omega)]
    have := laws_eqIntS_l0 a b hl h a.length k 0 (by omega) (by omega)
    simpa using this
  · rw [if_neg (by omega)]
    have : a ≠ b := fun e => h (by rw [e])
    simp [this]
theorem laws_markIntS_l0 : ∀ (rest pre : List Int) (k : Nat) (m : Int), (pre ++ rest).length ≤ 2000000 → rest.length < k → 0 ≤ m → m ≤ 1000000000000 → m + rest.length ≤ 1000000000000 →
    laws_markIntS.l0 k (pre ++ rest) m (pre.length : Int) = some (m + rest.length, pre ++ marks m rest.length) := by
  intro rest
  induction rest with
  | nil =>
    intro pre k m hl hk h0 h1 h2
    obtain ⟨k, rfl⟩ : ∃ m, k = m + 1 := ⟨k - 1, by simp only [List.length_nil] at hk; omega⟩
    simp only [laws_markIntS.l0]
    rw [if_neg (by simp)]; simp [marks]
  | cons x rest ih =>
    intro pre k m hl hk h0 h1 h2
    simp only [List.length_cons, List.length_append] at *
    obtain ⟨k, rfl⟩ : ∃ m, k = m + 1 := ⟨k - 1, by omega⟩
    simp only [laws_markIntS.l0]
    rw [if_pos (by simp only [List.length_append, List.length_cons]; omega), if_pos (by omega), Int.toNat_natCast, set_append_len, w64 _ (by omega) (by omega), w64 _ (by omega) (by omega)]
    have := ih (pre ++ [m]) k (m + 1) (by simp; omega) (by omega) (by omega) (by omega) (by omega)
    simp only [List.append_assoc, List.singleton_append, List.length_append, List.length_singleton] at this
    rw [show (pre.length : Int) + 1 = ((pre.length + 1 : Nat) : Int) from by omega, this]
    simp [marks]; omega
theorem laws_markIntS_f (k : Nat) (l : List Int) (m : Int) (hk : 2000001 ≤ k) (hl : l.length ≤ 2000000) (h0 : 0 ≤ m) (h1 : m ≤ 10000000000) : laws_markIntS.f k l m = some (m + l.length, marks m l.length) := by
  unfold laws_markIntS.f
  have := laws_markIntS_l0 l [] k m (by simpa using hl) (by omega) h0 (by omega) (by omega)
  simpa using this
theorem laws_heldIntS_l0 (l : List Int) (hl : l.length ≤ 2000000) : ∀ (d k i : Nat) (m : Int), i + d = l.length → d < k → 0 ≤ m → m + d ≤ 1000000000000 →
    laws_heldIntS.l0 k l m (i : Int) = some (if l.drop i = marks m d then m + d else -1) := by
  intro d
  induction d with
  | zero =>
    intro k i m h hk h0 h1
    obtain ⟨k, rfl⟩ : ∃ m, k = m + 1 := ⟨k - 1, by omega⟩
    simp only [laws_heldIntS.l0]
    rw [if_neg (by omega), List.drop_eq_nil_of_le (by omega)]; simp [marks]
  | succ d ih =>
    intro k i m h hk h0 h1
    obtain ⟨k, rfl⟩ : ∃ m, k = m + 1 := ⟨k - 1, by omega⟩
    simp only [laws_heldIntS.l0]
    rw [if_pos (by omega), if_pos (by omega), drop_rd l i (by omega), w64 _ (by omega) (by omega), w64 _ (by omega) (by omega)]
    simp only [marks, List.cons.injEq]
    by_cases c : rd l (i : Int) = m
    · rw [if_pos c, show (i : Int) + 1 = ((i + 1 : Nat) : Int) from by omega, ih k (i + 1) (m + 1) (by omega) (by omega) (by omega) (by omega)]
      simp only [c, true_and]
      split
      · congr 1; omega
      · rfl
    · rw [if_neg c, if_neg (fun hh => c hh.1)]
theorem laws_heldIntS_f (k : Nat) (l : List Int) (m : Int) (hk : 2000001 ≤ k) (hl : l.length ≤ 2000000) (h0 : 0 ≤ m) (h1 : m ≤ 10000000000) : laws_heldIntS.f k l m = some (if l = marks m l.length then m + l.length else -1) := by
  unfold laws_heldIntS.f
  have := laws_heldIntS_l0 l hl l.length k 0 m (by omega) (by omega) h0 (by omega)
  simpa using this
theorem laws_heldIntS_marks (k : Nat) (m : Int) (n : Nat) (hk : 2000001 ≤ k) (hl : n ≤ 2000000) (h0 : 0 ≤ m) (h1 : m ≤ 10000000000) : laws_heldIntS.f k (marks m n) m = some (m + n) := by
  rw [laws_heldIntS_f k (marks m n) m hk (by rw [length_marks]; exact hl) h0 h1, length_marks, if_pos rfl]
theorem laws_szIntS_f (l : List Int) (a : Int) (hl : l.length ≤ maxLen) (h0 : 0 ≤ a) (h1 : a ≤ 1048576) : laws_szIntS.f l a = some (if a < (l.length : Int) then -1 else a - l.length) := by
  unfold maxLen at hl
  unfold laws_szIntS.f
  rw [w64 _ (by omega) (by omega)]
  by_cases h : a < (l.length : Int)
  · rw [if_pos (by omega), if_pos h]
  · rw [if_neg (by omega), if_neg h]
/-- A gate as the program has it. -/
def gOf (x : S87) : S46 := ⟨⟨x.f0.f0, x.f0.f1, x.f0.f2, x.f0.f3, x.f0.f4, x.f0.f5, x.f0.f6, x.f0.f7, x.f0.f8⟩, x.f1, x.f2⟩
theorem drop_rdG (l : List S46) (i : Nat) (h : i < l.length) : l.drop i = rd_T46 l (i : Int) :: l.drop (i + 1) := by
  unfold rd_T46
  rw [Int.toNat_natCast, List.drop_eq_getElem_cons h, List.getD_eq_getElem?_getD, List.getElem?_eq_getElem h]; rfl
theorem take_rdH (l : List S87) (i : Nat) (h : i < l.length) : l.take (i + 1) = l.take i ++ [rd_T87 l (i : Int)] := by
  unfold rd_T87
  rw [Int.toNat_natCast, List.take_succ_eq_append_getElem h, List.getD_eq_getElem?_getD, List.getElem?_eq_getElem h]; rfl
theorem set_app_len {α : Type} (a : List α) (x y : α) (b : List α) : (a ++ x :: b).set a.length y = a ++ y :: b := by
  rw [List.set_append_right _ _ (Nat.le_refl _), Nat.sub_self]; rfl
theorem laws_toGate_f (a0 a1 a2 a3 a4 a5 a6 a7 a8 a9 a10 : Int) : laws_toGate.f a0 a1 a2 a3 a4 a5 a6 a7 a8 a9 a10 = some (a0, a1, a2, a3, a4, a5, a6, a7, a8, a9, a10) := by
  unfold laws_toGate.f laws_toTable.f
  rw [bsome]
theorem laws_toGateS_l0 (l : List S87) (hl : l.length ≤ 2000000) : ∀ (d k i : Nat), i + d = l.length → d < k →
    laws_toGateS.l0 k l ((l.take i).map gOf ++ List.replicate d z46) (i : Int) = some (l.map gOf) := by
  intro d
  induction d with
  | zero =>
    intro k i h hk
    obtain ⟨k, rfl⟩ : ∃ m, k = m + 1 := ⟨k - 1, by omega⟩
    simp only [laws_toGateS.l0]
    rw [if_neg (by omega)]; simp [List.take_of_length_le (show l.length ≤ i by omega)]
  | succ d ih =>
    intro k i h hk
    obtain ⟨k, rfl⟩ : ∃ m, k = m + 1 := ⟨k - 1, by omega⟩
    have hlen : ((l.take i).map gOf).length = i := by rw [List.length_map, List.length_take]; omega
    simp only [laws_toGateS.l0]
    rw [if_pos (by omega), if_pos (by omega), laws_toGate_f, bsome, if_pos (by rw [List.length_append, List.length_replicate, hlen]; omega), w64 _ (by omega) (by omega)]
    have e : ((l.take i).map gOf ++ List.replicate (d + 1) z46).set (i : Int).toNat (gOf (rd_T87 l (i : Int))) = (l.take (i + 1)).map gOf ++ List.replicate d z46 := by
      have h1 := set_app_len ((l.take i).map gOf) z46 (gOf (rd_T87 l (i : Int))) (List.replicate d z46)
      rw [hlen] at h1
      rw [Int.toNat_natCast, List.replicate_succ, h1, take_rdH l i (by omega), List.map_append, List.append_assoc]; rfl
    have e' := ih k (i + 1) (by omega) (by omega)
    rw [← e] at e'
    rw [show (i : Int) + 1 = ((i + 1 : Nat) : Int) from by omega]
    exact e'
theorem laws_toGateS_f (k : Nat) (l : List S87) (hk : 2000001 ≤ k) (hl : l.length ≤ 2000000) : laws_toGateS.f k l = some (l.map gOf) := by
  unfold laws_toGateS.f
  rw [if_pos (by omega), if_pos (by omega)]
  have := laws_toGateS_l0 l hl l.length k 0 (by omega) (by omega)
  simpa using this
theorem laws_toCircuit_f (k : Nat) (a : Int) (l : List S87) (m : List Int) (hk : 2000001 ≤ k) (hl : l.length ≤ 2000000) (hm : m.length ≤ 2000000) : laws_toCircuit.f k a l m = some (a, l.map gOf, m) := by
  unfold laws_toCircuit.f
  rw [laws_toGateS_f k l hk hl, bsome, laws_toIntS_f k m hk hm, bsome]
theorem laws_szCircuit_f (a : Int) (l : List S87) (m : List Int) (z : Int) (hl : l.length ≤ maxLen) (hm : m.length ≤ maxLen) (h0 : 0 ≤ z) (h1 : z ≤ 1048576) : ∃ v, laws_szCircuit.f a l m z = some v ∧ (v < 0 ∨ (0 ≤ v ∧ v ≤ z ∧ (l.length : Int) ≤ z ∧ (m.length : Int) ≤ z)) := by
  unfold laws_szCircuit.f laws_szGateS.f
  unfold maxLen at hl
  rw [w64 _ (by omega) (by omega)]
  by_cases c : z - (l.length : Int) < 0
  · rw [if_pos c, bsome, if_pos (by omega)]
    exact ⟨-1, rfl, .inl (by omega)⟩
  · rw [if_neg c, bsome, if_neg (by omega), laws_szIntS_f m _ hm (by omega) (by omega), bsome]
    by_cases d : z - (l.length : Int) < (m.length : Int)
    · rw [if_pos d, if_pos (by omega)]
      exact ⟨-1, rfl, .inl (by omega)⟩
    · rw [if_neg d, if_neg (by omega)]
      exact ⟨_, rfl, .inr ⟨by omega, by omega, by omega, by omega⟩⟩
theorem laws_eqGateS_l0 (a : List S46) (hl : a.length ≤ 2000000) : ∀ (d k i : Nat), i + d = a.length → d < k → laws_eqGateS.l0 k a a (i : Int) = some true := by
  intro d
  induction d with
  | zero =>
    intro k i h hk
    obtain ⟨k, rfl⟩ : ∃ m, k = m + 1 := ⟨k - 1, by omega⟩
    simp only [laws_eqGateS.l0]
    rw [if_neg (by omega)]
  | succ d ih =>
    intro k i h hk
    obtain ⟨k, rfl⟩ : ∃ m, k = m + 1 := ⟨k - 1, by omega⟩
    simp only [laws_eqGateS.l0]
    rw [if_pos (by omega), if_pos (by omega), if_pos (by omega)]
    generalize rd_T46 a (i : Int) = g
    have e : laws_eqGate.f g.f0.f0 g.f0.f1 g.f0.f2 g.f0.f3 g.f0.f4 g.f0.f5 g.f0.f6 g.f0.f7 g.f0.f8 g.f1 g.f2 g.f0.f0 g.f0.f1 g.f0.f2 g.f0.f3 g.f0.f4 g.f0.f5 g.f0.f6 g.f0.f7 g.f0.f8 g.f1 g.f2 = some true := by
      unfold laws_eqGate.f laws_eqTable.f
      rw [bsome, if_pos (by unfold eqL; exact decide_eq_true rfl), if_pos rfl, if_pos rfl]
    rw [e, bsome, if_pos rfl, w64 _ (by omega) (by omega), show (i : Int) + 1 = ((i + 1 : Nat) : Int) from by omega]
    exact ih k (i + 1) (by omega) (by omega)
theorem laws_eqGateS_same (k : Nat) (a : List S46) (hk : 2000001 ≤ k) (hl : a.length ≤ 2000000) : laws_eqGateS.f k a a = some true := by
  unfold laws_eqGateS.f
  rw [if_pos rfl]
  exact laws_eqGateS_l0 a hl a.length k 0 (by omega) (by omega)
theorem laws_eqCircuit_same (k : Nat) (a : Int) (l : List S46) (m : List Int) (hk : 2000001 ≤ k) (hl : l.length ≤ 2000000) (hm : m.length ≤ 2000000) : laws_eqCircuit.f k a l m a l m = some true := by
  unfold laws_eqCircuit.f
  rw [if_pos rfl, laws_eqGateS_same k l hk hl, bsome, if_pos rfl, laws_eqIntS_f k m m hk hm, bsome, if_pos (decide_eq_true rfl)]
/-- A gate over so many lines; gates that follow each other; a circuit. -/
def okG (n : Int) (g : S46) : Bool := isT9 [g.f0.f0, g.f0.f1, g.f0.f2, g.f0.f3, g.f0.f4, g.f0.f5, g.f0.f6, g.f0.f7, g.f0.f8] && (decide (0 ≤ g.f1 ∧ g.f1 < n) && decide (0 ≤ g.f2 ∧ g.f2 < n))
def okGs : Int → List S46 → Bool
  | _, [] => true
  | n, g :: gs => okG n g && okGs (n + 1) gs
def okO (n : Int) : List Int → Bool
  | [] => true
  | x :: xs => decide (0 ≤ x ∧ x < n) && okO n xs
def isCirc (a : Int) (gs : List S46) (os : List Int) : Bool := decide (0 ≤ a ∧ a ≤ 8) && (decide (gs.length ≤ 60) && (decide (os.length ≤ 60) && (okGs (3 + a) gs && okO (3 + a + gs.length) os)))
theorem isCirc_parts {a : Int} {gs : List S46} {os : List Int} (h : isCirc a gs os = true) : 0 ≤ a ∧ a ≤ 8 ∧ gs.length ≤ 60 ∧ os.length ≤ 60 ∧ okGs (3 + a) gs = true ∧ okO (3 + a + gs.length) os = true := by
  unfold isCirc at h
  simp only [Bool.and_eq_true, decide_eq_true_eq] at h
  exact ⟨h.1.1, h.1.2, h.2.1, h.2.2.1, h.2.2.2.1, h.2.2.2.2⟩
theorem spec_IsCircuit_l1 (n : Int) (gs : List S46) (os : List Int) (a : Int) (h0 : 0 ≤ n) (h1 : n ≤ 11) (hg : gs.length ≤ 60) (ho : os.length ≤ 60) : ∀ (d k i : Nat), i + d = os.length → d < k →
    spec_IsCircuit.l1 k n os (os.length : Int) (i : Int) a gs os = some (okO (n + gs.length) (os.drop i)) := by
  intro d
  induction d with
  | zero =>
    intro k i h hk
    obtain ⟨k, rfl⟩ : ∃ m, k = m + 1 := ⟨k - 1, by omega⟩
    simp only [spec_IsCircuit.l1]
    rw [if_neg (by omega), List.drop_eq_nil_of_le (by omega)]; rfl
  | succ d ih =>
    intro k i h hk
    obtain ⟨k, rfl⟩ : ∃ m, k = m + 1 := ⟨k - 1, by omega⟩
    simp only [spec_IsCircuit.l1]
    rw [if_pos (by omega), if_pos (by omega), if_pos (by omega), spec_l1In_f, bsome, w64 (n + _) (by omega) (by omega), w64 (n + _ - 1) (by omega) (by omega), w64 ((i : Int) + 1) (by omega) (by omega), drop_rd os i (by omega), okO]
    by_cases c : 0 ≤ rd os (i : Int) ∧ rd os (i : Int) ≤ n + gs.length - 1
    · rw [if_pos (decide_eq_true c), show (i : Int) + 1 = ((i + 1 : Nat) : Int) from by omega, ih k (i + 1) (by omega) (by omega), decide_eq_true (show 0 ≤ rd os (i : Int) ∧ rd os (i : Int) < n + gs.length by omega)]
      rfl
    · rw [decide_eq_false c, if_neg (by decide), decide_eq_false (show ¬ (0 ≤ rd os (i : Int) ∧ rd os (i : Int) < n + gs.length) by omega)]
      rfl
theorem spec_IsCircuit_l0 (n : Int) (gs : List S46) (os : List Int) (a : Int) (h0 : 0 ≤ n) (h1 : n ≤ 11) (hg : gs.length ≤ 60) (ho : os.length ≤ 60) : ∀ (d k i : Nat), i + d = gs.length → d + 100 < k →
    spec_IsCircuit.l0 k n gs (gs.length : Int) (i : Int) a gs os = some (okGs (n + i) (gs.drop i) && okO (n + gs.length) os) := by
  intro d
  induction d with
  | zero =>
    intro k i h hk
    obtain ⟨k, rfl⟩ : ∃ m, k = m + 1 := ⟨k - 1, by omega⟩
    simp only [spec_IsCircuit.l0]
    rw [if_neg (by omega), List.drop_eq_nil_of_le (by omega)]
    have := spec_IsCircuit_l1 n gs os a h0 h1 hg ho os.length k 0 (by omega) (by omega)
    simp only [Int.natCast_zero, List.drop_zero] at this
    rw [this]; simp [okGs]
  | succ d ih =>
    intro k i h hk
    obtain ⟨k, rfl⟩ : ∃ m, k = m + 1 := ⟨k - 1, by omega⟩
    simp only [spec_IsCircuit.l0]
    rw [if_pos (by omega), if_pos (by omega), if_pos (by omega), drop_rdG gs i (by omega), okGs]
    generalize rd_T46 gs (i : Int) = g
    unfold spec_IsTable.f okG
    rw [bsome, w64 (n + _) (by omega) (by omega), w64 (n + _ - 1) (by omega) (by omega), w64 ((i : Int) + 1) (by omega) (by omega), spec_l1In_f, bsome, spec_l1In_f, bsome]
    cases e : isT9 [g.f0.f0, g.f0.f1, g.f0.f2, g.f0.f3, g.f0.f4, g.f0.f5, g.f0.f6, g.f0.f7, g.f0.f8] with
    | false => rw [if_neg (by decide)]; rfl
    | true =>
      rw [if_pos rfl]
      by_cases c1 : 0 ≤ g.f1 ∧ g.f1 ≤ n + i - 1
      · rw [if_pos (decide_eq_true c1), decide_eq_true (show 0 ≤ g.f1 ∧ g.f1 < n + i by omega)]
        by_cases c2 : 0 ≤ g.f2 ∧ g.f2 ≤ n + i - 1
        · rw [if_pos (decide_eq_true c2), decide_eq_true (show 0 ≤ g.f2 ∧ g.f2 < n + i by omega), show (i : Int) + 1 = ((i + 1 : Nat) : Int) from by omega, ih k (i + 1) (by omega) (by omega), show n + ((i + 1 : Nat) : Int) = n + i + 1 by omega]
          rfl
        · rw [decide_eq_false c2, if_neg (by decide), decide_eq_false (show ¬ (0 ≤ g.f2 ∧ g.f2 < n + i) by omega)]
          rfl
      · rw [decide_eq_false c1, if_neg (by decide), decide_eq_false (show ¬ (0 ≤ g.f1 ∧ g.f1 < n + i) by omega)]
        rfl
theorem spec_IsCircuit_f (k : Nat) (a : Int) (gs : List S46) (os : List Int) (hk : 2000001 ≤ k) : spec_IsCircuit.f k a gs os = some (isCirc a gs os) := by
  unfold spec_IsCircuit.f isCirc
  rw [spec_l1In_f, bsome]
  obtain ⟨k, rfl⟩ : ∃ m, k = m + 1 := ⟨k - 1, by omega⟩
  by_cases c : 0 ≤ a ∧ a ≤ 8
  · rw [if_pos (decide_eq_true c), decide_eq_true c]
    by_cases c1 : gs.length ≤ 60
    · rw [if_neg (by omega), decide_eq_true c1]
      by_cases c2 : os.length ≤ 60
      · rw [decide_eq_false (show ¬ ((os.length : Int) > 60) by omega), decide_eq_true c2]
        simp only [spec_IsCircuit.j0]
        rw [if_neg (by decide), w64 (3 + a) (by omega) (by omega)]
        have := spec_IsCircuit_l0 (3 + a) gs os a (by omega) (by omega) c1 c2 gs.length k 0 (by omega) (by omega)
        simp only [List.drop_zero, Int.natCast_zero, Int.add_zero] at this
        rw [this]; rfl
      · rw [decide_eq_true (show ((os.length : Int) > 60) by omega), decide_eq_false c2]
        simp only [spec_IsCircuit.j0]
        rfl
    · rw [if_pos (by omega), decide_eq_false c1]
      simp only [spec_IsCircuit.j0]
      rfl
  · rw [decide_eq_false c, if_neg (by decide)]
    simp only [spec_IsCircuit.j0]
    rfl
theorem contains_f (os : List Int) (n : Int) : slices_ContainsFunc_int_int.f os n = some (!okO n os) := by
  unfold slices_ContainsFunc_int_int.f outB
  congr 1
  induction os with
  | nil => simp [okO]
  | cons x xs ih =>
    rw [okO]
    by_cases c : 0 ≤ x ∧ x < n
    · rw [decide_eq_true c, Bool.true_and, ← ih]
      congr 1
      apply propext
      constructor
      · rintro ⟨y, hy, h⟩
        rcases List.mem_cons.1 hy with rfl | hy
        · omega
        · exact ⟨y, hy, h⟩
      · rintro ⟨y, hy, h⟩
        exact ⟨y, List.mem_cons_of_mem _ hy, h⟩
    · rw [decide_eq_false c, Bool.false_and]
      exact decide_eq_true ⟨x, List.mem_cons_self, by omega⟩
theorem impl_IsCircuit_l0 (n : Int) (gs : List S46) (os : List Int) (a : Int) (h0 : 0 ≤ n) (h1 : n ≤ 11) (hg : gs.length ≤ 60) : ∀ (d k i : Nat), i + d = gs.length → d < k →
    impl_IsCircuit.l0 k gs (gs.length : Int) (i : Int) a gs os (n + i) = some (okGs (n + i) (gs.drop i) && okO (n + gs.length) os) := by
  intro d
  induction d with
  | zero =>
    intro k i h hk
    obtain ⟨k, rfl⟩ : ∃ m, k = m + 1 := ⟨k - 1, by omega⟩
    simp only [impl_IsCircuit.l0]
    rw [if_neg (by omega), List.drop_eq_nil_of_le (by omega), contains_f, bsome, show i = gs.length by omega, okGs, Bool.true_and, Bool.not_not]
  | succ d ih =>
    intro k i h hk
    obtain ⟨k, rfl⟩ : ∃ m, k = m + 1 := ⟨k - 1, by omega⟩
    simp only [impl_IsCircuit.l0]
    rw [if_pos (by omega), if_pos (by omega), if_pos (by omega), drop_rdG gs i (by omega), okGs]
    generalize rd_T46 gs (i : Int) = g
    unfold impl_IsTable.f okG
    rw [bsome, w64 (n + i + 1) (by omega) (by omega), w64 ((i : Int) + 1) (by omega) (by omega)]
    have ih' := ih k (i + 1) (by omega) (by omega)
    rw [show n + ((i + 1 : Nat) : Int) = n + i + 1 by omega, show ((i + 1 : Nat) : Int) = (i : Int) + 1 from by omega] at ih'
    rw [ih']
    cases e : isT9 [g.f0.f0, g.f0.f1, g.f0.f2, g.f0.f3, g.f0.f4, g.f0.f5, g.f0.f6, g.f0.f7, g.f0.f8] with
    | false => rw [if_neg (by decide)]; rfl
    | true =>
      rw [if_pos rfl]
      by_cases c1 : 0 ≤ g.f1 ∧ g.f1 < n + i
      · rw [if_neg (by omega), if_neg (by omega), decide_eq_true c1]
        by_cases c2 : 0 ≤ g.f2 ∧ g.f2 < n + i
        · rw [if_neg (by omega), if_neg (by omega), decide_eq_true c2]
          rfl
        · rw [decide_eq_false c2]
          by_cases c3 : g.f2 < 0
          · rw [if_pos c3]; rfl
          · rw [if_neg c3, if_pos (by omega)]; rfl
      · rw [decide_eq_false c1]
        by_cases c3 : g.f1 < 0
        · rw [if_pos c3]; rfl
        · rw [if_neg c3, if_pos (by omega)]; rfl
theorem impl_IsCircuit_f (k : Nat) (a : Int) (gs : List S46) (os : List Int) (hk : 2000001 ≤ k) : impl_IsCircuit.f k a gs os = some (isCirc a gs os) := by
  unfold impl_IsCircuit.f isCirc
  obtain ⟨k, rfl⟩ : ∃ m, k = m + 1 := ⟨k - 1, by omega⟩
  by_cases c : 0 ≤ a ∧ a ≤ 8
  · rw [if_neg (by omega), if_neg (by omega), decide_eq_true c]
    by_cases c1 : gs.length ≤ 60
    · rw [if_neg (by omega), decide_eq_true c1]
      by_cases c2 : os.length ≤ 60
      · rw [decide_eq_false (show ¬ ((os.length : Int) > 60) by omega), decide_eq_true c2]
        simp only [impl_IsCircuit.j0]
        rw [if_neg (by decide), w64 (3 + a) (by omega) (by omega)]
        have := impl_IsCircuit_l0 (3 + a) gs os a (by omega) (by omega) c1 gs.length k 0 (by omega) (by omega)
        simp only [List.drop_zero, Int.natCast_zero, Int.add_zero] at this
        rw [this]; rfl
      · rw [decide_eq_true (show ((os.length : Int) > 60) by omega), decide_eq_false c2]
        simp only [impl_IsCircuit.j0]
        rfl
    · rw [if_pos (by omega), decide_eq_false c1]
      simp only [impl_IsCircuit.j0]
      rfl
  · rw [decide_eq_false c]
    simp only [impl_IsCircuit.j0]
    by_cases d : a < 0
    · rw [if_pos d]; rfl
    · rw [if_neg d, if_pos (by omega)]; rfl
theorem okG_parts {n : Int} {g : S46} (h : okG n g = true) : isT9 [g.f0.f0, g.f0.f1, g.f0.f2, g.f0.f3, g.f0.f4, g.f0.f5, g.f0.f6, g.f0.f7, g.f0.f8] = true ∧ 0 ≤ g.f1 ∧ g.f1 < n ∧ 0 ≤ g.f2 ∧ g.f2 < n := by
  unfold okG at h
  simp only [Bool.and_eq_true, decide_eq_true_eq] at h
  exact ⟨h.1, h.2.1.1, h.2.1.2, h.2.2.1, h.2.2.2⟩
theorem rd_memI (l : List Int) (i : Int) (h0 : 0 ≤ i) (h1 : i < (l.length : Int)) : rd l i ∈ l := by
  obtain ⟨m, rfl⟩ := Int.eq_ofNat_of_zero_le h0
  exact rd_mem l m (by omega)
theorem trB_iff (x : Int) : trB x = true ↔ -1 ≤ x ∧ x ≤ 1 := by
  unfold trB
  simp only [Bool.and_eq_true, decide_eq_true_eq]
theorem isT9_mem {l : List Int} (h : isT9 l = true) {x : Int} (hx : x ∈ l) : -1 ≤ x ∧ x ≤ 1 := (trB_iff x).1 (List.all_eq_true.1 h x hx)
/-- A gate's trit; the lines that gates make, one behind the other. -/
def cells9 (g : S46) : List Int := [g.f0.f0, g.f0.f1, g.f0.f2, g.f0.f3, g.f0.f4, g.f0.f5, g.f0.f6, g.f0.f7, g.f0.f8]
theorem marksG_len (a : Int) (n : Nat) : (marksG a n).length = n := by simp [marksG]
theorem laws_markCircuit_f (k : Nat) (a : Int) (l : List S46) (m : List Int) (z : Int) (hk : 2000001 ≤ k) (hl : l.length ≤ 2000000) (hm : m.length ≤ 2000000) (h0 : 0 ≤ z) (h1 : z ≤ 1000000) : laws_markCircuit.f k a l m z = some (z + 11 * (l.length : Int) + m.length, marksG z l.length, marks (z + 11 * (l.length : Int)) m.length) := by
  unfold laws_markCircuit.f laws_markGateS.f
  rw [if_pos ⟨by omega, by omega, by omega⟩, bsome, laws_markIntS_f k m _ hk hm (by omega) (by omega), bsome]
theorem okGs_drop : ∀ (gs : List S46) (n : Int) (i : Nat), okGs n gs = true → okGs (n + i) (gs.drop i) = true
  | gs, n, 0, h => by simpa using h
  | [], n, i + 1, h => by simp [okGs]
  | x :: gs, n, i + 1, h => by
    rw [okGs, Bool.and_eq_true] at h
    rw [List.drop_succ_cons, show n + ((i + 1 : Nat) : Int) = n + 1 + (i : Int) from by omega]
    exact okGs_drop gs (n + 1) i h.2
theorem laws_heldCircuit_marks (k : Nat) (a z : Int) (n m : Nat) (hk : 2000001 ≤ k) (hl : n ≤ 2000000) (hm : m ≤ 2000000) (h0 : 0 ≤ z) (h1 : z ≤ 1000000) : laws_heldCircuit.f k a (marksG z n) (marks (z + 11 * (n : Int)) m) z = some (z + 11 * (n : Int) + m) := by
  unfold laws_heldCircuit.f laws_heldGateS.f
  rw [marksG_len, if_pos ⟨by omega, by omega, by omega⟩, if_pos rfl, bsome, if_neg (by omega), laws_heldIntS_marks k _ m hk hm (by omega) (by omega), bsome, if_neg (by omega)]
theorem spec_LookUp_g (t0 t1 t2 t3 t4 t5 t6 t7 t8 a b : Int) (h : isT9 [t0, t1, t2, t3, t4, t5, t6, t7, t8] = true) (ha : -1 ≤ a ∧ a ≤ 1) (hb : -1 ≤ b ∧ b ≤ 1) :
    spec_LookUp.f t0 t1 t2 t3 t4 t5 t6 t7 t8 a b = some (rd [t0, t1, t2, t3, t4, t5, t6, t7, t8] (3 * (a + 1) + b + 1)) := by
  unfold spec_LookUp.f spec_IsTable.f
  have e : spec_l1Two.f a b = some true := by
    have h1 : ∀ x : Int, -1 ≤ x ∧ x ≤ 1 → x = -1 ∨ x = 0 ∨ x = 1 := by intro x hx; omega
    rcases h1 a ha with rfl | rfl | rfl <;> rcases h1 b hb with rfl | rfl | rfl <;> decide +kernel
  rw [bsome, if_pos h, e, bsome, if_pos rfl, w64 (a + 1) (by omega) (by omega), w64 (3 * (a + 1)) (by omega) (by omega), w64 (3 * (a + 1) + b) (by omega) (by omega), w64 (3 * (a + 1) + b + 1) (by omega) (by omega), if_pos (by omega), if_pos (by omega)]
theorem spec_DualTable_f (k : Nat) (t0 t1 t2 t3 t4 t5 t6 t7 t8 : Int) (hk : 100 ≤ k) (h : isT9 [t0, t1, t2, t3, t4, t5, t6, t7, t8] = true) : spec_DualTable.f k t0 t1 t2 t3 t4 t5 t6 t7 t8 = impl_DualTable.f t0 t1 t2 t3 t4 t5 t6 t7 t8 := by
  obtain ⟨k, rfl⟩ : ∃ m, k = m + 20 := ⟨k - 20, by omega⟩
  have st : ∀ (k : Nat) (a b y0 y1 y2 y3 y4 y5 y6 y7 y8 : Int), -1 ≤ a ∧ a ≤ 1 → -1 ≤ b ∧ b ≤ 1 → spec_DualTable.l1 (k + 1) a b t0 t1 t2 t3 t4 t5 t6 t7 t8 y0 y1 y2 y3 y4 y5 y6 y7 y8 = spec_DualTable.l1 k a (b + 1) t0 t1 t2 t3 t4 t5 t6 t7 t8
      (sel9 (3 * (a + 1) + b + 1) 0 (-(rd [t0, t1, t2, t3, t4, t5, t6, t7, t8] (3 * (-a + 1) + -b + 1))) y0) (sel9 (3 * (a + 1) + b + 1) 1 (-(rd [t0, t1, t2, t3, t4, t5, t6, t7, t8] (3 * (-a + 1) + -b + 1))) y1) (sel9 (3 * (a + 1) + b + 1) 2 (-(rd [t0, t1, t2, t3, t4, t5, t6, t7, t8] (3 * (-a + 1) + -b + 1))) y2) (sel9 (3 * (a + 1) + b + 1) 3 (-(rd [t0, t1, t2, t3, t4, t5, t6, t7, t8] (3 * (-a + 1) + -b + 1))) y3) (sel9 (3 * (a + 1) + b + 1) 4 (-(rd [t0, t1, t2, t3, t4, t5, t6, t7, t8] (3 * (-a + 1) + -b + 1))) y4) (sel9 (3 * (a + 1) + b + 1) 5 (-(rd [t0, t1, t2, t3, t4, t5, t6, t7, t8] (3 * (-a + 1) + -b + 1))) y5) (sel9 (3 * (a + 1) + b + 1) 6 (-(rd [t0, t1, t2, t3, t4, t5, t6, t7, t8] (3 * (-a + 1) + -b + 1))) y6) (sel9 (3 * (a + 1) + b + 1) 7 (-(rd [t0, t1, t2, t3, t4, t5, t6, t7, t8] (3 * (-a + 1) + -b + 1))) y7) (sel9 (3 * (a + 1) + b + 1) 8 (-(rd [t0, t1, t2, t3, t4, t5, t6, t7, t8] (3 * (-a + 1) + -b + 1))) y8) := by
    intro k a b y0 y1 y2 y3 y4 y5 y6 y7 y8 ha hb
    have hv := isT9_mem h (rd_memI [t0, t1, t2, t3, t4, t5, t6, t7, t8] (3 * (-a + 1) + -b + 1) (by omega) (by show _ < (9 : Int); omega))
    simp only [spec_DualTable.l1]
    rw [if_pos hb.2, w64 (-a) (by omega) (by omega), w64 (-b) (by omega) (by omega), spec_LookUp_g t0 t1 t2 t3 t4 t5 t6 t7 t8 (-a) (-b) h (by omega) (by omega), bsome, w64 (a + 1) (by omega) (by omega), w64 (3 * (a + 1)) (by omega) (by omega), w64 (3 * (a + 1) + b) (by omega) (by omega), w64 (3 * (a + 1) + b + 1) (by omega) (by omega), if_pos (by omega), if_pos (by omega), w64 (b + 1) (by omega) (by omega), w64 (-(rd [t0, t1, t2, t3, t4, t5, t6, t7, t8] (3 * (-a + 1) + -b + 1))) (by omega) (by omega)]
  have sx : ∀ (k : Nat) (a b y0 y1 y2 y3 y4 y5 y6 y7 y8 : Int), -1 ≤ a ∧ a ≤ 1 → b = 2 → spec_DualTable.l1 (k + 1) a b t0 t1 t2 t3 t4 t5 t6 t7 t8 y0 y1 y2 y3 y4 y5 y6 y7 y8 = spec_DualTable.l0 k (a + 1) t0 t1 t2 t3 t4 t5 t6 t7 t8 y0 y1 y2 y3 y4 y5 y6 y7 y8 := by
    intro k a b y0 y1 y2 y3 y4 y5 y6 y7 y8 ha hb
    simp only [spec_DualTable.l1]
    rw [if_neg (by omega), w64 (a + 1) (by omega) (by omega)]
  have s0 : ∀ (k : Nat) (a y0 y1 y2 y3 y4 y5 y6 y7 y8 : Int), a ≤ 1 → spec_DualTable.l0 (k + 1) a t0 t1 t2 t3 t4 t5 t6 t7 t8 y0 y1 y2 y3 y4 y5 y6 y7 y8 = spec_DualTable.l1 k a (-1) t0 t1 t2 t3 t4 t5 t6 t7 t8 y0 y1 y2 y3 y4 y5 y6 y7 y8 := by
    intro k a y0 y1 y2 y3 y4 y5 y6 y7 y8 ha
    simp only [spec_DualTable.l0]
    rw [if_pos ha]
  unfold spec_DualTable.f
  rw [s0 _ _ _ _ _ _ _ _ _ _ _ (by omega), st _ _ _ _ _ _ _ _ _ _ _ _ (by omega) (by omega), st _ _ _ _ _ _ _ _ _ _ _ _ (by omega) (by omega), st _ _ _ _ _ _ _ _ _ _ _ _ (by omega) (by omega), sx _ _ _ _ _ _ _ _ _ _ _ _ (by omega) (by omega),
    s0 _ _ _ _ _ _ _ _ _ _ _ (by omega), st _ _ _ _ _ _ _ _ _ _ _ _ (by omega) (by omega), st _ _ _ _ _ _ _ _ _ _ _ _ (by omega) (by omega), st _ _ _ _ _ _ _ _ _ _ _ _ (by omega) (by omega), sx _ _ _ _ _ _ _ _ _ _ _ _ (by omega) (by omega),
    s0 _ _ _ _ _ _ _ _ _ _ _ (by omega), st _ _ _ _ _ _ _ _ _ _ _ _ (by omega) (by omega), st _ _ _ _ _ _ _ _ _ _ _ _ (by omega) (by omega), st _ _ _ _ _ _ _ _ _ _ _ _ (by omega) (by omega), sx _ _ _ _ _ _ _ _ _ _ _ _ (by omega) (by omega)]
  simp only [spec_DualTable.l0]
  rw [if_neg (by omega)]
  unfold impl_DualTable.f dualv look9
  rw [if_pos h, if_pos h, if_pos h, if_pos h, if_pos h, if_pos h, if_pos h, if_pos h, if_pos h]
  rfl
/-- The dual of a gate; the line that takes another's place. -/
def mir (x : Int) : Int := if x = 0 then 2 else if x = 2 then 0 else x
def dualG (g : S46) : S46 := ⟨⟨dualv (cells9 g) (-1) (-1), dualv (cells9 g) (-1) 0, dualv (cells9 g) (-1) 1, dualv (cells9 g) 0 (-1), dualv (cells9 g) 0 0, dualv (cells9 g) 0 1, dualv (cells9 g) 1 (-1), dualv (cells9 g) 1 0, dualv (cells9 g) 1 1⟩, mir g.f1, mir g.f2⟩
theorem mir_f (x : Int) : impl_mirrored.f x = some (mir x) ∧ spec_l6Other.f x = some (mir x) := by
  unfold impl_mirrored.f spec_l6Other.f mir
  by_cases c : x = 0
  · subst c; exact ⟨by decide +kernel, by decide +kernel⟩
  · rw [if_neg c, if_neg c]
    by_cases d : x = 2
    · subst d; exact ⟨by decide +kernel, by decide +kernel⟩
    · rw [if_neg d, if_neg d]; exact ⟨rfl, rfl⟩
theorem impl_Dual_l1 (os : List Int) (a : Int) (gs : List S46) (ho : os.length ≤ 60) : ∀ (d k i : Nat) (acc : List Int), i + d = os.length → d < k → acc.length = i →
    impl_DualCircuit.l1 k os (os.length : Int) (i : Int) a gs acc = some (a, gs, acc ++ (os.drop i).map mir) := by
  intro d
  induction d with
  | zero =>
    intro k i acc h hk ha
    obtain ⟨k, rfl⟩ : ∃ m, k = m + 1 := ⟨k - 1, by omega⟩
    simp only [impl_DualCircuit.l1]
    rw [if_neg (by omega), List.drop_eq_nil_of_le (by omega)]; simp
  | succ d ih =>
    intro k i acc h hk ha
    obtain ⟨k, rfl⟩ : ∃ m, k = m + 1 := ⟨k - 1, by omega⟩
    simp only [impl_DualCircuit.l1]
    rw [if_pos (by omega), if_pos (by omega), if_pos (by omega), (mir_f _).1, bsome, if_pos (by omega), w64 _ (by omega) (by omega), drop_rd os i (by omega), show (i : Int) + 1 = ((i + 1 : Nat) : Int) from by omega, ih k (i + 1) _ (by omega) (by omega) (by simp; omega)]
    simp
theorem impl_Dual_l0 (gs : List S46) (os : List Int) (a : Int) (hg : gs.length ≤ 60) (ho : os.length ≤ 60) : ∀ (d k i : Nat) (acc : List S46), i + d = gs.length → d + 100 < k → acc.length = i →
    impl_DualCircuit.l0 k gs (gs.length : Int) (i : Int) a gs os a acc = some (a, acc ++ (gs.drop i).map dualG, os.map mir) := by
  intro d
  induction d with
  | zero =>
    intro k i acc h hk ha
    obtain ⟨k, rfl⟩ : ∃ m, k = m + 1 := ⟨k - 1, by omega⟩
    simp only [impl_DualCircuit.l0]
    have e := impl_Dual_l1 os a acc ho os.length k 0 [] (by omega) (by omega) rfl
    simp only [List.drop_zero, Int.natCast_zero, List.nil_append] at e
    rw [if_neg (by omega), List.drop_eq_nil_of_le (by omega), e]; simp
  | succ d ih =>
    intro k i acc h hk ha
    obtain ⟨k, rfl⟩ : ∃ m, k = m + 1 := ⟨k - 1, by omega⟩
    simp only [impl_DualCircuit.l0]
    unfold impl_DualTable.f
    rw [if_pos (by omega), if_pos (by omega), if_pos (by omega), bsome, (mir_f _).1, bsome, (mir_f _).1, bsome, if_pos (by omega), w64 _ (by omega) (by omega), drop_rdG gs i (by omega), show (i : Int) + 1 = ((i + 1 : Nat) : Int) from by omega, ih k (i + 1) _ (by omega) (by omega) (by simp; omega)]
    simp [dualG, cells9]
theorem spec_Dual_l1 (os : List Int) (a : Int) (gs : List S46) (ho : os.length ≤ 60) : ∀ (d k i : Nat), i + d = os.length → d < k →
    spec_DualCircuit.l1 k os (os.length : Int) (i : Int) a gs ((os.take i).map mir ++ os.drop i) = some (a, gs, os.map mir) := by
  intro d
  induction d with
  | zero =>
    intro k i h hk
    obtain ⟨k, rfl⟩ : ∃ m, k = m + 1 := ⟨k - 1, by omega⟩
    simp only [spec_DualCircuit.l1]
    rw [if_neg (by omega), List.drop_eq_nil_of_le (by omega), List.take_of_length_le (by omega)]; simp
  | succ d ih =>
    intro k i h hk
    obtain ⟨k, rfl⟩ : ∃ m, k = m + 1 := ⟨k - 1, by omega⟩
    simp only [spec_DualCircuit.l1]
    have hl : ((os.take i).map mir).length = i := by rw [List.length_map, List.length_take]; omega
    have e : ((os.take i).map mir ++ os.drop i).set (i : Int).toNat (mir (rd os (i : Int))) = (os.take (i + 1)).map mir ++ os.drop (i + 1) := by
      rw [Int.toNat_natCast, drop_rd os i (by omega)]
      have := set_app_len ((os.take i).map mir) (rd os (i : Int)) (mir (rd os (i : Int))) (os.drop (i + 1))
      rw [hl] at this
      rw [this, take_rd os i (by omega), List.map_append]; simp
    have hll : ((os.take i).map mir ++ os.drop i).length = os.length := by rw [List.length_append, hl, List.length_drop]; omega
    rw [if_pos (by omega), if_pos (by omega), if_pos (by omega), (mir_f _).2, bsome, if_pos (by omega), w64 _ (by omega) (by omega), e, show (i : Int) + 1 = ((i + 1 : Nat) : Int) from by omega]
    exact ih k (i + 1) (by omega) (by omega)
theorem take_rdG (l : List S46) (i : Nat) (h : i < l.length) : l.take (i + 1) = l.take i ++ [rd_T46 l (i : Int)] := by
  unfold rd_T46
  rw [Int.toNat_natCast, List.take_succ_eq_append_getElem h, List.getD_eq_getElem?_getD, List.getElem?_eq_getElem h]; rfl
theorem spec_Dual_l0 (n : Int) (gs : List S46) (os : List Int) (a : Int) (hg : gs.length ≤ 60) (ho : os.length ≤ 60) (hok : okGs n gs = true) : ∀ (d k i : Nat), i + d = gs.length → d + 200 < k →
    spec_DualCircuit.l0 k gs (gs.length : Int) (i : Int) a gs os a ((gs.take i).map dualG ++ gs.drop i) os = some (a, gs.map dualG, os.map mir) := by
  intro d
  induction d with
  | zero =>
    intro k i h hk
    obtain ⟨k, rfl⟩ : ∃ m, k = m + 1 := ⟨k - 1, by omega⟩
    simp only [spec_DualCircuit.l0]
    have e := spec_Dual_l1 os a (gs.map dualG) ho os.length k 0 (by omega) (by omega)
    simp only [List.drop_zero, Int.natCast_zero, List.take_zero, List.map_nil, List.nil_append] at e
    rw [if_neg (by omega), List.drop_eq_nil_of_le (by omega), List.take_of_length_le (by omega), List.append_nil, e]
  | succ d ih =>
    intro k i h hk
    obtain ⟨k, rfl⟩ : ∃ m, k = m + 1 := ⟨k - 1, by omega⟩
    simp only [spec_DualCircuit.l0]
    have hd := okGs_drop gs n i hok
    rw [drop_rdG gs i (by omega), okGs, Bool.and_eq_true] at hd
    have h9 := (okG_parts hd.1).1
    have hl : ((gs.take i).map dualG).length = i := by rw [List.length_map, List.length_take]; omega
    have e : ((gs.take i).map dualG ++ gs.drop i).set (i : Int).toNat (dualG (rd_T46 gs (i : Int))) = (gs.take (i + 1)).map dualG ++ gs.drop (i + 1) := by
      rw [Int.toNat_natCast, drop_rdG gs i (by omega)]
      have := set_app_len ((gs.take i).map dualG) (rd_T46 gs (i : Int)) (dualG (rd_T46 gs (i : Int))) (gs.drop (i + 1))
      rw [hl] at this
      rw [this, take_rdG gs i (by omega), List.map_append]; simp
    have hll : ((gs.take i).map dualG ++ gs.drop i).length = gs.length := by rw [List.length_append, hl, List.length_drop]; omega
    rw [if_pos (by omega), if_pos (by omega), if_pos (by omega), spec_DualTable_f k _ _ _ _ _ _ _ _ _ (by omega) h9]
    unfold impl_DualTable.f
    rw [bsome, (mir_f _).2, bsome, (mir_f _).2, bsome, if_pos (by omega), w64 _ (by omega) (by omega), show (i : Int) + 1 = ((i + 1 : Nat) : Int) from by omega]
    have := ih k (i + 1) (by omega) (by omega)
    rw [← e] at this
    exact this
def dualOf (a : Int) (gs : List S46) (os : List Int) : Int × List S46 × List Int := if isCirc a gs os = true then (a, gs.map dualG, os.map mir) else (0, [], [])
theorem DualCircuit_f (k : Nat) (a : Int) (gs : List S46) (os : List Int) (hk : 4000001 ≤ k) : spec_DualCircuit.f k a gs os = some (dualOf a gs os) ∧ impl_DualCircuit.f k a gs os = some (dualOf a gs os) := by
  unfold spec_DualCircuit.f impl_DualCircuit.f dualOf
  rw [spec_IsCircuit_f k a gs os (by omega), impl_IsCircuit_f k a gs os (by omega), bsome, bsome]
  cases h : isCirc a gs os with
  | false => exact ⟨rfl, rfl⟩
  | true =>
    obtain ⟨a0, a1, g1, o1, hg, _⟩ := isCirc_parts h
    rw [if_pos rfl, if_pos rfl, if_pos rfl]
    constructor
    · unfold spec_l6Copy.f spec_l2Copy.f
      rw [bsome, if_pos (by simp only [List.length_nil]; omega), bsome, if_pos (by simp only [List.length_nil]; omega), bsome, bsome]
      have := spec_Dual_l0 _ gs os a g1 o1 hg gs.length k 0 (by omega) (by omega)
      simpa using this
    · have := impl_Dual_l0 gs os a g1 o1 gs.length k 0 [] (by omega) (by omega) rfl
      simpa using this
theorem dualOf_len (a : Int) (gs : List S46) (os : List Int) : (dualOf a gs os).2.1.length ≤ 60 ∧ (dualOf a gs os).2.2.length ≤ 60 := by
  unfold dualOf
  split
  · rename_i h
    obtain ⟨_, _, g1, o1, _, _⟩ := isCirc_parts h
    exact ⟨by simpa using g1, by simpa using o1⟩
  · exact ⟨by simp, by simp⟩
end FnExactDualCircuitParts
open FnExactDualCircuitParts
attribute [local congr] bind_left

theorem FnExactDualCircuit : laws_FnExactDualCircuit.Pure := by
  intro a l m _ hl hm
  obtain ⟨K, hK⟩ : ∃ K, 100000000 ≤ K := ⟨_, Nat.le_refl _⟩
  refine ⟨K + 4, ?_⟩
  unfold laws_FnExactDualCircuit.f
  obtain ⟨v, ev, hv⟩ := laws_szCircuit_f a l m 1048576 hl.1 hm.1 (by omega) (by omega)
  rw [ev, bsome]
  by_cases h0 : v < 0
  · rw [if_pos h0]
  · have hb : (l.length : Int) ≤ 1048576 ∧ (m.length : Int) ≤ 1048576 := by omega
    have hgl : (l.map gOf).length ≤ 2000000 := by rw [List.length_map]; omega
    have f := fun k (hk : 4000001 ≤ k) => (DualCircuit_f k a (l.map gOf) m hk).1
    have g := fun k (hk : 4000001 ≤ k) => (DualCircuit_f k a (l.map gOf) m hk).2
    have hr := dualOf_len a (l.map gOf) m
    have tc := fun k (hk : 4000001 ≤ k) => laws_toCircuit_f k a l m (by omega) (by omega) (by omega)
    have ec := fun k (hk : 4000001 ≤ k) => laws_eqCircuit_same k a (l.map gOf) m (by omega) hgl (by omega)
    have mc := fun k (hk : 4000001 ≤ k) => laws_markCircuit_f k a (l.map gOf) m 1 (by omega) hgl (by omega) (by omega) (by omega)
    rw [if_neg h0]
    generalize dualOf a (l.map gOf) m = r at *
    obtain ⟨n, gs, os⟩ := r
    have hg : gs.length ≤ 60 := hr.1
    have ho : os.length ≤ 60 := hr.2
    have ec2 := fun k (hk : 4000001 ≤ k) => laws_eqCircuit_same k n gs os (by omega) (by omega) (by omega)
    have mc2 := fun k (hk : 4000001 ≤ k) => laws_markCircuit_f k n gs os 1 (by omega) (by omega) (by omega) (by omega) (by omega)
    have hc2 := fun k (hk : 4000001 ≤ k) => laws_heldCircuit_marks k n 1 gs.length os.length (by omega) (by omega) (by omega) (by omega) (by omega)
    simp (disch := omega) only [↓if_pos, ↓if_neg, ↓reduceIte, bsome, decide_true, bne_self_eq_false, Bool.false_eq_true, Bool.not_true, f, g, tc, ec, mc, ec2, mc2, hc2, laws_FnExactDualCircuit.j0]

end Go.Proofs.Ytaopbkbjfmfcdaa.Pure
