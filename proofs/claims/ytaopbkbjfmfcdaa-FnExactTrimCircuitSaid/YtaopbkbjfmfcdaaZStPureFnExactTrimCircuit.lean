/- For all circuits the program's TrimCircuit gives what the reference gives, changes no argument, and shares no memory; no condition. -/
import Derived.Test.YtaopbkbjfmfcdaaZStPSk9
import Derived.Test.YtaopbkbjfmfcdaaZStGlue
namespace Go.Proofs.Ytaopbkbjfmfcdaa.Pure
open Go.RowKit Go.Proofs.Ytaopbkbjfmfcdaa.Tern Go.Proofs.Ytaopbkbjfmfcdaa.P Go.Proofs.YtaopbkbjfmfcdaaW.PrintWords Go.Proofs.YtaopbkbjfmfcdaaW.PrintLast
set_option linter.unusedVariables false
set_option linter.unusedSimpArgs false

namespace FnExactTrimCircuitParts
theorem spec_l1In_f (x a b : Int) : spec_l1In.f x a b = some (decide (a ≤ x ∧ x ≤ b)) := by
  unfold spec_l1In.f
  split
  · rename_i h
    simp [show a ≤ x from h]
  · rename_i h
    have : ¬ (a ≤ x) := h
    simp [this]
theorem laws_toIntS_l0 (l : List Int) (hl : l.length ≤ 2000000) : ∀ (d k i : Nat), i + d = l.length → d < k →
    laws_toIntS.l0 k l (l.take i ++ List.replicate d 0) (i : Int) = some l := by
  intro d
  induction d with
  | zero =>
    intro k i h hk
    obtain ⟨k, rfl⟩ : ∃ m, k = m + 1 := ⟨k - 1, by omega⟩
    simp only [laws_toIntS.l0]
    rw [if_neg (by omega)]; simp [List.take_of_length_le (show l.length ≤ i by omega)]
  | succ d ih =>
    intro k i h hk
    obtain ⟨k, rfl⟩ : ∃ m, k = m + 1 := ⟨k - 1, by omega⟩
    have hlen : (l.take i).length = i := by rw [List.length_take]; omega
    simp only [laws_toIntS.l0]
    rw [if_pos (by omega), if_pos (by omega), if_pos (by rw [List.length_append, List.length_replicate, hlen]; omega), w64 _ (by omega) (by omega)]
    have e : (l.take i ++ List.replicate (d + 1) (0 : Int)).set (i : Int).toNat (rd l (i : Int)) = l.take (i + 1) ++ List.replicate d 0 := by
      have h1 := set_append_len (l.take i) 0 (rd l (i : Int)) (List.replicate d 0)
      rw [hlen] at h1
      rw [Int.toNat_natCast, List.replicate_succ, h1, take_rd l i (by omega), List.append_assoc]; rfl
    rw [e, show (i : Int) + 1 = ((i + 1 : Nat) : Int) from by omega]
    exact ih k (i + 1) (by omega) (by omega)
theorem laws_toIntS_f (k : Nat) (l : List Int) (hk : 2000001 ≤ k) (hl : l.length ≤ 2000000) : laws_toIntS.f k l = some l := by
  unfold laws_toIntS.f
  rw [if_pos (by omega), if_pos (by omega)]
  have := laws_toIntS_l0 l hl l.length k 0 (by omega) (by omega)
  simpa using this
theorem laws_eqIntS_l0 (a b : List Int) (hl : a.length ≤ 2000000) (hb : a.length = b.length) : ∀ (d k i : Nat), i + d = a.length → d < k →
    laws_eqIntS.l0 k a b (i : Int) = some (decide (a.drop i = b.drop i)) := by
  intro d
  induction d with
  | zero =>
    intro k i h hk
    obtain ⟨k, rfl⟩ : ∃ m, k = m + 1 := ⟨k - 1, by omega⟩
    simp only [laws_eqIntS.l0]
    rw [if_neg (by omega), List.drop_eq_nil_of_le (by omega), List.drop_eq_nil_of_le (by omega)]; simp
  | succ d ih =>
    intro k i h hk
    obtain ⟨k, rfl⟩ : ∃ m, k = m + 1 := ⟨k - 1, by omega⟩
    simp only [laws_eqIntS.l0]
    rw [if_pos (by omega), if_pos (by omega), if_pos (by omega), drop_rd a i (by omega), drop_rd b i (by omega), w64 _ (by omega) (by omega)]
    by_cases c : rd a (i : Int) = rd b (i : Int)
    · rw [if_pos c, show (i : Int) + 1 = ((i + 1 : Nat) : Int) from by omega, ih k (i + 1) (by omega) (by omega)]
      simp [c]
    · rw [if_neg c]; simp [c]
theorem laws_eqIntS_f (k : Nat) (a b : List Int) (hk : 2000001 ≤ k) (hl : a.length ≤ 2000000) : laws_eqIntS.f k a b = some (decide (a = b)) := by
  unfold laws_eqIntS.f
  by_cases h : a.length = b.length
  · rw [if_pos (by omega)]
    have := laws_eqIntS_l0 a b hl h a.length k 0 (by omega) (by omega)
    simpa using this
  · rw [if_neg (by omega)]
    have : a ≠ b := fun e => h (by rw [e])
    simp [this]
theorem laws_markIntS_l0 : ∀ (rest pre : List Int) (k : Nat) (m : Int), (pre ++ rest).length ≤ 2000000 → rest.length < k → 0 ≤ m → m ≤ 1000000000000 → m + rest.length ≤ 1000000000000 →
    laws_markIntS.l0 k (pre ++ rest) m (pre.length : Int) = some (m + rest.length, pre ++ marks m rest.length) := by
  intro rest
  induction rest with
  | nil =>
    intro pre k m hl hk h0 h1 h2
    obtain ⟨k, rfl⟩ : ∃ m, k = m + 1 := ⟨k - 1, by simp only [List.length_nil] at hk; omega⟩
    simp only [laws_markIntS.l0]
    rw [if_neg (by simp)]; simp [marks]
  | cons x rest ih =>
    intro pre k m hl hk h0 h1 h2
    simp only [List.length_cons, List.length_append] at *
    obtain ⟨k, rfl⟩ : ∃ m, k = m + 1 := ⟨k - 1, by omega⟩
    simp only [laws_markIntS.l0]
    rw [if_pos (by simp only [List.length_append, List.length_cons]; omega), if_pos (by omega), Int.toNat_natCast, set_append_len, w64 _ (by omega) (by omega), w64 _ (by omega) (by omega)]
    have := ih (pre ++ [m]) k (m + 1) (by simp; omega) (by omega) (by omega) (by omega) (by omega)
    simp only [List.append_assoc, List.singleton_append, List.length_append, List.length_singleton] at this
    rw [show (pre.length : Int) + 1 = ((pre.length + 1 : Nat) : Int) from by omega, this]
    simp [marks]; omega
theorem laws_markIntS_f (k : Nat) (l : List Int) (m : Int) (hk : 2000001 ≤ k) (hl : l.length ≤ 2000000) (h0 : 0 ≤ m) (h1 : m ≤ 10000000000) : laws_markIntS.f k l m = some (m + l.length, marks m l.length) := by
  unfold laws_markIntS.f
  have := laws_markIntS_l0 l [] k m (by simpa using hl) (by omega) h0 (by omega) (by omega)
  simpa using this
theorem laws_heldIntS_l0 (l : List Int) (hl : l.length ≤ 2000000) : ∀ (d k i : Nat) (m : Int), i + d = l.length → d < k → 0 ≤ m → m + d ≤ 1000000000000 →
    laws_heldIntS.l0 k l m (i : Int) = some (if l.drop i = marks m d then m + d else -1) := by
  intro d
  induction d with
  | zero =>
    intro k i m h hk h0 h1
    obtain ⟨k, rfl⟩ : ∃ m, k = m + 1 := ⟨k - 1, by omega⟩
    simp only [laws_heldIntS.l0]
    rw [if_neg (by omega), List.drop_eq_nil_of_le (by omega)]; simp [marks]
  | succ d ih =>
    intro k i m h hk h0 h1
    obtain ⟨k, rfl⟩ : ∃ m, k = m + 1 := ⟨k - 1, by omega⟩
    simp only [laws_heldIntS.l0]
    rw [if_pos (by omega), if_pos (by omega), drop_rd l i (by omega), w64 _ (by omega) (by omega), w64 _ (by omega) (by omega)]
    simp only [marks, List.cons.injEq]
    by_cases c : rd l (i : Int) = m
    · rw [if_pos c, show (i : Int) + 1 = ((i + 1 : Nat) : Int) from by omega, ih k (i + 1) (m + 1) (by omega) (by omega) (by omega) (by omega)]
      simp only [c, true_and]
      split
      · congr 1; omega
      · rfl
    · rw [if_neg c, if_neg (fun hh => c hh.1)]
theorem laws_heldIntS_f (k : Nat) (l : List Int) (m : Int) (hk : 2000001 ≤ k) (hl : l.length ≤ 2000000) (h0 : 0 ≤ m) (h1 : m ≤ 10000000000) : laws_heldIntS.f k l m = some (if l = marks m l.length then m + l.length else -1) := by
  unfold laws_heldIntS.f
  have := laws_heldIntS_l0 l hl l.length k 0 m (by omega) (by omega) h0 (by omega)
  simpa using this
theorem laws_heldIntS_marks (k : Nat) (m : Int) (n : Nat) (hk : 2000001 ≤ k) (hl : n ≤ 2000000) (h0 : 0 ≤ m) (h1 : m ≤ 10000000000) : laws_heldIntS.f k (marks m n) m = some (m + n) := by
  rw [laws_heldIntS_f k (marks m n) m hk (by rw [length_marks]; exact hl) h0 h1, length_marks, if_pos rfl]
theorem laws_szIntS_f (l : List Int) (a : Int) (hl : l.length ≤ maxLen) (h0 : 0 ≤ a) (h1 : a ≤ 1048576) : laws_szIntS.f l a = some (if a < (l.length : Int) then -1 else a - l.length) := by
  unfold maxLen at hl
  unfold laws_szIntS.f
  rw [w64 _ (by omega) (by omega)]
  by_cases h : a < (l.length : Int)
  · rw [if_pos (by omega), if_pos h]
  · rw [if_neg (by omega), if_neg h]
/-- A gate as the program has it. -/
def gOf (x : S87) : S46 := ⟨⟨x.f0.f0, x.f0.f1, x.f0.f2, x.f0.f3, x.f0.f4, x.f0.f5, x.f0.f6, x.f0.f7, x.f0.f8⟩, x.f1, x.f2⟩
theorem drop_rdG (l : List S46) (i : Nat) (h : i < l.length) : l.drop i = rd_T46 l (i : Int) :: l.drop (i + 1) := by
  unfold rd_T46
  rw [Int.toNat_natCast, List.drop_eq_getElem_cons h, List.getD_eq_getElem?_getD, List.getElem?_eq_getElem h]; rfl
theorem take_rdH (l : List S87) (i : Nat) (h : i < l.length) : l.take (i + 1) = l.take i ++ [rd_T87 l (i : Int)] := by
  unfold rd_T87
  rw [Int.toNat_natCast, List.take_succ_eq_append_getElem h, List.getD_eq_getElem?_getD, List.getElem?_eq_getElem h]; rfl
theorem set_app_len {α : Type} (a : List α) (x y : α) (b : List α) : (a ++ x :: b).set a.length y = a ++ y :: b := by
  rw [List.set_append_right _ _ (Nat.le_refl _), Nat.sub_self]; rfl
theorem laws_toGate_f (a0 a1 a2 a3 a4 a5 a6 a7 a8 a9 a10 : Int) : laws_toGate.f a0 a1 a2 a3 a4 a5 a6 a7 a8 a9 a10 = some (a0, a1, a2, a3, a4, a5, a6, a7, a8, a9, a10) := by
  unfold laws_toGate.f laws_toTable.f
  rw [bsome]
theorem laws_toGateS_l0 (l : List S87) (hl : l.length ≤ 2000000) : ∀ (d k i : Nat), i + d = l.length → d < k →
    laws_toGateS.l0 k l ((l.take i).map gOf ++ List.replicate d z46) (i : Int) = some (l.map gOf) := by
  intro d
  induction d with
  | zero =>
    intro k i h hk
    obtain ⟨k, rfl⟩ : ∃ m, k = m + 1 := ⟨k - 1, by omega⟩
    simp only [laws_toGateS.l0]
    rw [if_neg (by omega)]; simp [List.take_of_length_le (show l.length ≤ i by omega)]
  | succ d ih =>
    intro k i h hk
    obtain ⟨k, rfl⟩ : ∃ m, k = m + 1 := ⟨k - 1, by omega⟩
    have hlen : ((l.take i).map gOf).length = i := by rw [List.length_map, List.length_take]; omega
    simp only [laws_toGateS.l0]
    rw [if_pos (by omega), if_pos (by omega), laws_toGate_f, bsome, if_pos (by rw [List.length_append, List.length_replicate, hlen]; omega), w64 _ (by omega) (by omega)]
    have e : ((l.take i).map gOf ++ List.replicate (d + 1) z46).set (i : Int).toNat (gOf (rd_T87 l (i : Int))) = (l.take (i + 1)).map gOf ++ List.replicate d z46 := by
      have h1 := set_app_len ((l.take i).map gOf) z46 (gOf (rd_T87 l (i : Int))) (List.replicate d z46)
      rw [hlen] at h1
      rw [Int.toNat_natCast, List.replicate_succ, h1, take_rdH l i (by omega), List.map_append, List.append_assoc]; rfl
    have e' := ih k (i + 1) (by omega) (by omega)
    rw [← e] at e'
    rw [show (i : Int) + 1 = ((i + 1 : Nat) : Int) from by omega]
    exact e'
theorem laws_toGateS_f (k : Nat) (l : List S87) (hk : 2000001 ≤ k) (hl : l.length ≤ 2000000) : laws_toGateS.f k l = some (l.map gOf) := by
  unfold laws_toGateS.f
  rw [if_pos (by omega), if_pos (by omega)]
  have := laws_toGateS_l0 l hl l.length k 0 (by omega) (by omega)
  simpa using this
theorem laws_toCircuit_f (k : Nat) (a : Int) (l : List S87) (m : List Int) (hk : 2000001 ≤ k) (hl : l.length ≤ 2000000) (hm : m.length ≤ 2000000) : laws_toCircuit.f k a l m = some (a, l.map gOf, m) := by
  unfold laws_toCircuit.f
  rw [laws_toGateS_f k l hk hl, bsome, laws_toIntS_f k m hk hm, bsome]
theorem laws_szCircuit_f (a : Int) (l : List S87) (m : List Int) (z : Int) (hl : l.length ≤ maxLen) (hm : m.length ≤ maxLen) (h0 : 0 ≤ z) (h1 : z ≤ 1048576) : ∃ v, laws_szCircuit.f a l m z = some v ∧ (v < 0 ∨ (0 ≤ v ∧ v ≤ z ∧ (l.length : Int) ≤ z ∧ (m.length : Int) ≤ z)) := by
  unfold laws_szCircuit.f laws_szGateS.f
  unfold maxLen at hl
  rw [w64 _ (by omega) (by omega)]
  by_cases c : z - (l.length : Int) < 0
  · rw [if_pos c, bsome, if_pos (by omega)]
    exact ⟨-1, rfl, .inl (by omega)⟩
  · rw [if_neg c, bsome, if_neg (by omega), laws_szIntS_f m _ hm (by omega) (by omega), bsome]
    by_cases d : z - (l.length : Int) < (m.length : Int)
    · rw [if_pos d, if_pos (by omega)]
      exact ⟨-1, rfl, .inl (by omega)⟩
    · rw [if_neg d, if_neg (by omega)]
      exact ⟨_, rfl, .inr ⟨by omega, by omega, by omega, by omega⟩⟩
theorem laws_eqGateS_l0 (a : List S46) (hl : a.length ≤ 2000000) : ∀ (d k i : Nat), i + d = a.length → d < k → laws_eqGateS.l0 k a a (i : Int) = some true := by
  intro d
  induction d with
  | zero =>
    intro k i h hk
    obtain ⟨k, rfl⟩ : ∃ m, k = m + 1 := ⟨k - 1, by omega⟩
    simp only [laws_eqGateS.l0]
    rw [if_neg (by omega)]
  | succ d ih =>
    intro k i h hk
    obtain ⟨k, rfl⟩ : ∃ m, k = m + 1 := ⟨k - 1, by omega⟩
    simp only [laws_eqGateS.l0]
    rw [if_pos (by omega), if_pos (by omega), if_pos (by omega)]
    generalize rd_T46 a (i : Int) = g
    have e : laws_eqGate.f g.f0.f0 g.f0.f1 g.f0.f2 g.f0.f3 g.f0.f4 g.f0.f5 g.f0.f6 g.f0.f7 g.f0.f8 g.f1 g.f2 g.f0.f0 g.f0.f1 g.f0.f2 g.f0.f3 g.f0.f4 g.f0.f5 g.f0.f6 g.f0.f7 g.f0.f8 g.f1 g.f2 = some true := by
      unfold laws_eqGate.f laws_eqTable.f
      rw [bsome, if_pos (by unfold eqL; exact decide_eq_true rfl), if_pos rfl, if_pos rfl]
    rw [e, bsome, if_pos rfl, w64 _ (by omega) (by omega), show (i : Int) + 1 = ((i + 1 : Nat) : Int) from by omega]
    exact ih k (i + 1) (by omega) (by omega)
theorem laws_eqGateS_same (k : Nat) (a : List S46) (hk : 2000001 ≤ k) (hl : a.length ≤ 2000000) : laws_eqGateS.f k a a = some true := by
  unfold laws_eqGateS.f
  rw [if_pos rfl]
  exact laws_eqGateS_l0 a hl a.length k 0 (by omega) (by omega)
theorem laws_eqCircuit_same (k : Nat) (a : Int) (l : List S46) (m : List Int) (hk : 2000001 ≤ k) (hl : l.length ≤ 2000000) (hm : m.length ≤ 2000000) : laws_eqCircuit.f k a l m a l m = some true := by
  unfold laws_eqCircuit.f
  rw [if_pos rfl, laws_eqGateS_same k l hk hl, bsome, if_pos rfl, laws_eqIntS_f k m m hk hm, bsome, if_pos (decide_eq_true rfl)]
/-- A gate over so many lines; gates that follow each other; a circuit. -/
def okG (n : Int) (g : S46) : Bool := isT9 [g.f0.f0, g.f0.f1, g.f0.f2, g.f0.f3, g.f0.f4, g.f0.f5, g.f0.f6, g.f0.f7, g.f0.f8] && (decide (0 ≤ g.f1 ∧ g.f1 < n) && decide (0 ≤ g.f2 ∧ g.f2 < n))
def okGs : Int → List S46 → Bool
  | _, [] => true
  | n, g :: gs => okG n g && okGs (n + 1) gs
def okO (n : Int) : List Int → Bool
  | [] => true
  | x :: xs => decide (0 ≤ x ∧ x < n) && okO n xs
def isCirc (a : Int) (gs : List S46) (os : List Int) : Bool := decide (0 ≤ a ∧ a ≤ 8) && (decide (gs.length ≤ 60) && (decide (os.length ≤ 60) && (okGs (3 + a) gs && okO (3 + a + gs.length) os)))
theorem isCirc_parts {a : Int} {gs : List S46} {os : List Int} (h : isCirc a gs os = true) : 0 ≤ a ∧ a ≤ 8 ∧ gs.length ≤ 60 ∧ os.length ≤ 60 ∧ okGs (3 + a) gs = true ∧ okO (3 + a + gs.length) os = true := by
  unfold isCirc at h
  simp only [Bool.and_eq_true, decide_eq_true_eq] at h
  exact ⟨h.1.1, h.1.2, h.2.1, h.2.2.1, h.2.2.2.1, h.2.2.2.2⟩
theorem spec_IsCircuit_l1 (n : Int) (gs : List S46) (os : List Int) (a : Int) (h0 : 0 ≤ n) (h1 : n ≤ 11) (hg : gs.length ≤ 60) (ho : os.length ≤ 60) : ∀ (d k i : Nat), i + d = os.length → d < k →
    spec_IsCircuit.l1 k n os (os.length : Int) (i : Int) a gs os = some (okO (n + gs.length) (os.drop i)) := by
  intro d
  induction d with
  | zero =>
    intro k i h hk
    obtain ⟨k, rfl⟩ : ∃ m, k = m + 1 := ⟨k - 1, by omega⟩
    simp only [spec_IsCircuit.l1]
    rw [if_neg (by omega), List.drop_eq_nil_of_le (by omega)]; rfl
  | succ d ih =>
    intro k i h hk
    obtain ⟨k, rfl⟩ : ∃ m, k = m + 1 := ⟨k - 1, by omega⟩
    simp only [spec_IsCircuit.l1]
    rw [if_pos (by omega), if_pos (by omega), if_pos (by omega), spec_l1In_f, bsome, w64 (n + _) (by omega) (by omega), w64 (n + _ - 1) (by omega) (by omega), w64 ((i : Int) + 1) (by omega) (by omega), drop_rd os i (by omega), okO]
    by_cases c : 0 ≤ rd os (i : Int) ∧ rd os (i : Int) ≤ n + gs.length - 1
    · rw [if_pos (decide_eq_true c), show (i : Int) + 1 = ((i + 1 : Nat) : Int) from by omega, ih k (i + 1) (by omega) (by omega), decide_eq_true (show 0 ≤ rd os (i : Int) ∧ rd os (i : Int) < n + gs.length by omega)]
      rfl
    · rw [decide_eq_false c, if_neg (by decide), decide_eq_false (show ¬ (0 ≤ rd os (i : Int) ∧ rd os (i : Int) < n + gs.length) by omega)]
      rfl
theorem spec_IsCircuit_l0 (n : Int) (gs : List S46) (os : List Int) (a : Int) (h0 : 0 ≤ n) (h1 : n ≤ 11) (hg : gs.length ≤ 60) (ho : os.length ≤ 60) : ∀ (d k i : Nat), i + d = gs.length → d + 100 < k →
    spec_IsCircuit.l0 k n gs (gs.length : Int) (i : Int) a gs os = some (okGs (n + i) (gs.drop i) && okO (n + gs.length) os) := by
  intro d
  induction d with
  | zero =>
    intro k i h hk
    obtain ⟨k, rfl⟩ : ∃ m, k = m + 1 := ⟨k - 1, by omega⟩
    simp only [spec_IsCircuit.l0]
    rw [if_neg (by omega), List.drop_eq_nil_of_le (by omega)]
    have := spec_IsCircuit_l1 n gs os a h0 h1 hg ho os.length k 0 (by omega) (by omega)
    simp only [Int.natCast_zero, List.drop_zero] at this
    rw [this]; simp [okGs]
  | succ d ih =>
    intro k i h hk
    obtain ⟨k, rfl⟩ : ∃ m, k = m + 1 := ⟨k - 1, by omega⟩
    simp only [spec_IsCircuit.l0]
    rw [if_pos (by omega), if_pos (by omega), if_pos (by omega), drop_rdG gs i (by omega), okGs]
    generalize rd_T46 gs (i : Int) = g
    unfold spec_IsTable.f okG
    rw [bsome, w64 (n + _) (by omega) (by omega), w64 (n + _ - 1) (by omega) (by omega), w64 ((i : Int) + 1) (by omega) (by omega), spec_l1In_f, bsome, spec_l1In_f, bsome]
    cases e : isT9 [g.f0.f0, g.f0.f1, g.f0.f2, g.f0.f3, g.f0.f4, g.f0.f5, g.f0.f6, g.f0.f7, g.f0.f8] with
    | false => rw [if_neg (by decide)]; rfl
    | true =>
      rw [if_pos rfl]
      by_cases c1 : 0 ≤ g.f1 ∧ g.f1 ≤ n + i - 1
      · rw [if_pos (decide_eq_true c1), decide_eq_true (show 0 ≤ g.f1 ∧ g.f1 < n + i by omega)]
        by_cases c2 : 0 ≤ g.f2 ∧ g.f2 ≤ n + i - 1
        · rw [if_pos (decide_eq_true c2), decide_eq_true (show 0 ≤ g.f2 ∧ g.f2 < n + i by omega), show (i : Int) + 1 = ((i + 1 : Nat) : Int) from by omega, ih k (i + 1) (by omega) (by omega), show n + ((i + 1 : Nat) : Int) = n + i + 1 by omega]
          rfl
        · rw [decide_eq_false c2, if_neg (by decide), decide_eq_false (show ¬ (0 ≤ g.f2 ∧ g.f2 < n + i) by omega)]
          rfl
      · rw [decide_eq_false c1, if_neg (by decide), decide_eq_false (show ¬ (0 ≤ g.f1 ∧ g.f1 < n + i) by omega)]
        rfl
theorem spec_IsCircuit_f (k : Nat) (a : Int) (gs : List S46) (os : List Int) (hk : 2000001 ≤ k) : spec_IsCircuit.f k a gs os = some (isCirc a gs os) := by
  unfold spec_IsCircuit.f isCirc
  rw [spec_l1In_f, bsome]
  obtain ⟨k, rfl⟩ : ∃ m, k = m + 1 := ⟨k - 1, by omega⟩
  by_cases c : 0 ≤ a ∧ a ≤ 8
  · rw [if_pos (decide_eq_true c), decide_eq_true c]
    by_cases c1 : gs.length ≤ 60
    · rw [if_neg (by omega), decide_eq_true c1]
      by_cases c2 : os.length ≤ 60
      · rw [decide_eq_false (show ¬ ((os.length : Int) > 60) by omega), decide_eq_true c2]
        simp only [spec_IsCircuit.j0]
        rw [if_neg (by decide), w64 (3 + a) (by omega) (by omega)]
        have := spec_IsCircuit_l0 (3 + a) gs os a (by omega) (by omega) c1 c2 gs.length k 0 (by omega) (by omega)
        simp only [List.drop_zero, Int.natCast_zero, Int.add_zero] at this
        rw [this]; rfl
      · rw [decide_eq_true (show ((os.length : Int) > 60) by omega), decide_eq_false c2]
        simp only [spec_IsCircuit.j0]
        rfl
    · rw [if_pos (by omega), decide_eq_false c1]
      simp only [spec_IsCircuit.j0]
      rfl
  · rw [decide_eq_false c, if_neg (by decide)]
    simp only [spec_IsCircuit.j0]
    rfl
theorem contains_f (os : List Int) (n : Int) : slices_ContainsFunc_int_int.f os n = some (!okO n os) := by
  unfold slices_ContainsFunc_int_int.f outB
  congr 1
  induction os with
  | nil => simp [okO]
  | cons x xs ih =>
    rw [okO]
    by_cases c : 0 ≤ x ∧ x < n
    · rw [decide_eq_true c, Bool.true_and, ← ih]
      congr 1
      apply propext
      constructor
      · rintro ⟨y, hy, h⟩
        rcases List.mem_cons.1 hy with rfl | hy
        · omega
        · exact ⟨y, hy, h⟩
      · rintro ⟨y, hy, h⟩
        exact ⟨y, List.mem_cons_of_mem _ hy, h⟩
    · rw [decide_eq_false c, Bool.false_and]
      exact decide_eq_true ⟨x, List.mem_cons_self, by omega⟩
theorem impl_IsCircuit_l0 (n : Int) (gs : List S46) (os : List Int) (a : Int) (h0 : 0 ≤ n) (h1 : n ≤ 11) (hg : gs.length ≤ 60) : ∀ (d k i : Nat), i + d = gs.length → d < k →
    impl_IsCircuit.l0 k gs (gs.length : Int) (i : Int) a gs os (n + i) = some (okGs (n + i) (gs.drop i) && okO (n + gs.length) os) := by
  intro d
  induction d with
  | zero =>
    intro k i h hk
    obtain ⟨k, rfl⟩ : ∃ m, k = m + 1 := ⟨k - 1, by omega⟩
    simp only [impl_IsCircuit.l0]
    rw [if_neg (by omega), List.drop_eq_nil_of_le (by omega), contains_f, bsome, show i = gs.length by omega, okGs, Bool.true_and, Bool.not_not]
  | succ d ih =>
    intro k i h hk
    obtain ⟨k, rfl⟩ : ∃ m, k = m + 1 := ⟨k - 1, by omega⟩
    simp only [impl_IsCircuit.l0]
    rw [if_pos (by omega), if_pos (by omega), if_pos (by omega), drop_rdG gs i (by omega), okGs]
    generalize rd_T46 gs (i : Int) = g
    unfold impl_IsTable.f okG
    rw [bsome, w64 (n + i + 1) (by omega) (by omega), w64 ((i : Int) + 1) (by omega) (by omega)]
    have ih' := ih k (i + 1) (by omega) (by omega)
    rw [show n + ((i + 1 : Nat) : Int) = n + i + 1 by omega, show ((i + 1 : Nat) : Int) = (i : Int) + 1 from by omega] at ih'
    rw [ih']
    cases e : isT9 [g.f0.f0, g.f0.f1, g.f0.f2, g.f0.f3, g.f0.f4, g.f0.f5, g.f0.f6, g.f0.f7, g.f0.f8] with
    | false => rw [if_neg (by decide)]; rfl
    | true =>
      rw [if_pos rfl]
      by_cases c1 : 0 ≤ g.f1 ∧ g.f1 < n + i
      · rw [if_neg (by omega), if_neg (by omega), decide_eq_true c1]
        by_cases c2 : 0 ≤ g.f2 ∧ g.f2 < n + i
        · rw [if_neg (by omega), if_neg (by omega), decide_eq_true c2]
          rfl
        · rw [decide_eq_false c2]
          by_cases c3 : g.f2 < 0
          · rw [if_pos c3]; rfl
          · rw [if_neg c3, if_pos (by omega)]; rfl
      · rw [decide_eq_false c1]
        by_cases c3 : g.f1 < 0
        · rw [if_pos c3]; rfl
        · rw [if_neg c3, if_pos (by omega)]; rfl
theorem impl_IsCircuit_f (k : Nat) (a : Int) (gs : List S46) (os : List Int) (hk : 2000001 ≤ k) : impl_IsCircuit.f k a gs os = some (isCirc a gs os) := by
  unfold impl_IsCircuit.f isCirc
  obtain ⟨k, rfl⟩ : ∃ m, k = m + 1 := ⟨k - 1, by omega⟩
  by_cases c : 0 ≤ a ∧ a ≤ 8
  · rw [if_neg (by omega), if_neg (by omega), decide_eq_true c]
    by_cases c1 : gs.length ≤ 60
    · rw [if_neg (by omega), decide_eq_true c1]
      by_cases c2 : os.length ≤ 60
      · rw [decide_eq_false (show ¬ ((os.length : Int) > 60) by omega), decide_eq_true c2]
        simp only [impl_IsCircuit.j0]
        rw [if_neg (by decide), w64 (3 + a) (by omega) (by omega)]
        have := impl_IsCircuit_l0 (3 + a) gs os a (by omega) (by omega) c1 gs.length k 0 (by omega) (by omega)
        simp only [List.drop_zero, Int.natCast_zero, Int.add_zero] at this
        rw [this]; rfl
      · rw [decide_eq_true (show ((os.length : Int) > 60) by omega), decide_eq_false c2]
        simp only [impl_IsCircuit.j0]
        rfl
    · rw [if_pos (by omega), decide_eq_false c1]
      simp only [impl_IsCircuit.j0]
      rfl
  · rw [decide_eq_false c]
    simp only [impl_IsCircuit.j0]
    by_cases d : a < 0
    · rw [if_pos d]; rfl
    · rw [if_neg d, if_pos (by omega)]; rfl
theorem okG_parts {n : Int} {g : S46} (h : okG n g = true) : isT9 [g.f0.f0, g.f0.f1, g.f0.f2, g.f0.f3, g.f0.f4, g.f0.f5, g.f0.f6, g.f0.f7, g.f0.f8] = true ∧ 0 ≤ g.f1 ∧ g.f1 < n ∧ 0 ≤ g.f2 ∧ g.f2 < n := by
  unfold okG at h
  simp only [Bool.and_eq_true, decide_eq_true_eq] at h
  exact ⟨h.1, h.2.1.1, h.2.1.2, h.2.2.1, h.2.2.2⟩
theorem marksG_len (a : Int) (n : Nat) : (marksG a n).length = n := by simp [marksG]
theorem laws_markCircuit_f (k : Nat) (a : Int) (l : List S46) (m : List Int) (z : Int) (hk : 2000001 ≤ k) (hl : l.length ≤ 2000000) (hm : m.length ≤ 2000000) (h0 : 0 ≤ z) (h1 : z ≤ 1000000) : laws_markCircuit.f k a l m z = some (z + 11 * (l.length : Int) + m.length, marksG z l.length, marks (z + 11 * (l.length : Int)) m.length) := by
  unfold laws_markCircuit.f laws_markGateS.f
  rw [if_pos ⟨by omega, by omega, by omega⟩, bsome, laws_markIntS_f k m _ hk hm (by omega) (by omega), bsome]
theorem okO_drop (n : Int) : ∀ (os : List Int) (i : Nat), okO n os = true → okO n (os.drop i) = true
  | os, 0, h => by simpa using h
  | [], i + 1, h => by simpa using h
  | x :: os, i + 1, h => by
    rw [okO, Bool.and_eq_true] at h
    exact okO_drop n os i h.2
theorem okGs_drop : ∀ (gs : List S46) (n : Int) (i : Nat), okGs n gs = true → okGs (n + i) (gs.drop i) = true
  | gs, n, 0, h => by simpa using h
  | [], n, i + 1, h => by simp [okGs]
  | x :: gs, n, i + 1, h => by
    rw [okGs, Bool.and_eq_true] at h
    rw [List.drop_succ_cons, show n + ((i + 1 : Nat) : Int) = n + 1 + (i : Int) from by omega]
    exact okGs_drop gs (n + 1) i h.2
theorem laws_heldCircuit_marks (k : Nat) (a z : Int) (n m : Nat) (hk : 2000001 ≤ k) (hl : n ≤ 2000000) (hm : m ≤ 2000000) (h0 : 0 ≤ z) (h1 : z ≤ 1000000) : laws_heldCircuit.f k a (marksG z n) (marks (z + 11 * (n : Int)) m) z = some (z + 11 * (n : Int) + m) := by
  unfold laws_heldCircuit.f laws_heldGateS.f
  rw [marksG_len, if_pos ⟨by omega, by omega, by omega⟩, if_pos rfl, bsome, if_neg (by omega), laws_heldIntS_marks k _ m hk hm (by omega) (by omega), bsome, if_neg (by omega)]
theorem bget_mono (u : List Bool) (m x : Nat) (h : u.getD x false = true) : (u.set m true).getD x false = true := by
  rw [List.getD_eq_getElem?_getD] at h ⊢
  rw [List.getElem?_set]
  split
  · split
    · rfl
    · rename_i e hlt
      rw [List.getElem?_eq_none (by omega)] at h; cases h
  · exact h
theorem bget_self (u : List Bool) (m : Nat) (h : m < u.length) : (u.set m true).getD m false = true := by
  rw [List.getD_eq_getElem?_getD, List.getElem?_set_self h]; rfl
theorem bget_ne (u : List Bool) (m x : Nat) (h : m ≠ x) : (u.set m true).getD x false = u.getD x false := by
  rw [List.getD_eq_getElem?_getD, List.getElem?_set_ne h, List.getD_eq_getElem?_getD]
/-- The lines that outputs use; then those that gates in use need. -/
def markO (u : List Bool) : List Int → List Bool
  | [] => u
  | x :: xs => markO (u.set x.toNat true) xs
def markG (n : Nat) (gs : List S46) : Nat → List Bool → List Bool
  | 0, u => u
  | j + 1, u => if u.getD (n + j) false = true then markG n gs j ((u.set (rd_T46 gs (j : Int)).f1.toNat true).set (rd_T46 gs (j : Int)).f2.toNat true) else markG n gs j u
theorem markO_len : ∀ (xs : List Int) (u : List Bool), (markO u xs).length = u.length
  | [], _ => rfl
  | x :: xs, u => by rw [markO, markO_len xs]; simp
theorem markO_mono : ∀ (xs : List Int) (u : List Bool) (x : Nat), u.getD x false = true → (markO u xs).getD x false = true
  | [], _, _, h => h
  | y :: xs, u, x, h => by rw [markO]; exact markO_mono xs _ x (bget_mono u _ x h)
theorem markO_mem (n : Int) : ∀ (xs : List Int) (u : List Bool), (u.length : Int) = n → okO n xs = true → ∀ x ∈ xs, (markO u xs).getD x.toNat false = true
  | [], _, _, _, x, hx => by cases hx
  | y :: xs, u, hu, h, x, hx => by
    rw [okO, Bool.and_eq_true, decide_eq_true_eq] at h
    rw [markO]
    rcases List.mem_cons.1 hx with rfl | hx
    · exact markO_mono xs _ _ (bget_self u _ (by omega))
    · exact markO_mem n xs _ (by simpa using hu) h.2 x hx
theorem markG_len (n : Nat) (gs : List S46) : ∀ (j : Nat) (u : List Bool), (markG n gs j u).length = u.length
  | 0, _ => rfl
  | j + 1, u => by
    rw [markG]
    split
    · rw [markG_len n gs j]; simp
    · exact markG_len n gs j u
theorem markG_mono (n : Nat) (gs : List S46) : ∀ (j : Nat) (u : List Bool) (x : Nat), u.getD x false = true → (markG n gs j u).getD x false = true
  | 0, _, _, h => h
  | j + 1, u, x, h => by
    rw [markG]
    split
    · exact markG_mono n gs j _ x (bget_mono _ _ x (bget_mono u _ x h))
    · exact markG_mono n gs j u x h
theorem okGs_at (gs : List S46) (n : Int) (h : okGs n gs = true) (i : Nat) (hi : i < gs.length) : okG (n + i) (rd_T46 gs (i : Int)) = true := by
  have hd := okGs_drop gs n i h
  rw [drop_rdG gs i hi, okGs, Bool.and_eq_true] at hd
  exact hd.1
theorem markG_keep (n : Nat) (gs : List S46) (hok : okGs n gs = true) : ∀ (j : Nat), j ≤ gs.length → ∀ (u : List Bool) (x : Nat), n + j ≤ x → (markG n gs j u).getD x false = u.getD x false
  | 0, _, _, _, _ => rfl
  | j + 1, hj, u, x, hx => by
    obtain ⟨_, a0, a1, b0, b1⟩ := okG_parts (okGs_at gs n hok j (by omega))
    rw [markG]
    split
    · rw [markG_keep n gs hok j (by omega) _ x (by omega), bget_ne _ _ x (by omega), bget_ne _ _ x (by omega)]
    · exact markG_keep n gs hok j (by omega) u x (by omega)
theorem markG_uses (n : Nat) (gs : List S46) (hok : okGs n gs = true) : ∀ (j : Nat), j ≤ gs.length → ∀ (u : List Bool), u.length = n + gs.length → ∀ i, i < j → (markG n gs j u).getD (n + i) false = true →
    (markG n gs j u).getD (rd_T46 gs (i : Int)).f1.toNat false = true ∧ (markG n gs j u).getD (rd_T46 gs (i : Int)).f2.toNat false = true
  | 0, _, _, _, i, hi, _ => by omega
  | j + 1, hj, u, hu, i, hi, h => by
    obtain ⟨_, a0, a1, b0, b1⟩ := okG_parts (okGs_at gs n hok j (by omega))
    rw [markG] at h ⊢
    by_cases c : u.getD (n + j) false = true
    · rw [if_pos c] at h ⊢
      by_cases e : i = j
      · subst e
        exact ⟨markG_mono n gs i _ _ (bget_mono _ _ _ (bget_self u _ (by omega))), markG_mono n gs i _ _ (bget_self _ _ (by simp; omega))⟩
      · exact markG_uses n gs hok j (by omega) _ (by simpa using hu) i (by omega) h
    · rw [if_neg c] at h ⊢
      by_cases e : i = j
      · subst e
        rw [markG_keep n gs hok i (by omega) u (n + i) (by omega)] at h
        exact absurd h c
      · exact markG_uses n gs hok j (by omega) u hu i (by omega) h
/-- The whole numbers below n, in their order. -/
def idx (n : Nat) : List Int := (List.range n).map Int.ofNat
theorem idx_len (n : Nat) : (idx n).length = n := by simp [idx]
theorem idx_succ (n : Nat) : idx (n + 1) = idx n ++ [(n : Int)] := by simp [idx, List.range_succ]
/-- The gates in use, with the lines that theirs become. -/
def trimS (n : Nat) (U : List Bool) : List S46 → Nat → List Int → List S46 → List Int × List S46
  | [], _, line, out => (line, out)
  | g :: gs, i, line, out => if U.getD (n + i) false = true then trimS n U gs (i + 1) (line ++ [(n : Int) + out.length]) (out ++ [⟨g.f0, rd (line ++ [(n : Int) + out.length]) g.f1, rd (line ++ [(n : Int) + out.length]) g.f2⟩]) else trimS n U gs (i + 1) (line ++ [(n : Int) + out.length]) out
theorem trimS_len (n : Nat) (U : List Bool) : ∀ (gs : List S46) (i : Nat) (line : List Int) (out : List S46), (trimS n U gs i line out).1.length = line.length + gs.length ∧ (trimS n U gs i line out).2.length ≤ out.length + gs.length
  | [], i, line, out => by simp [trimS]
  | g :: gs, i, line, out => by
    rw [trimS]
    split
    · have := trimS_len n U gs (i + 1) (line ++ [(n : Int) + out.length]) (out ++ [⟨g.f0, rd (line ++ [(n : Int) + out.length]) g.f1, rd (line ++ [(n : Int) + out.length]) g.f2⟩])
      simp only [List.length_append, List.length_cons, List.length_nil] at this ⊢; omega
    · have := trimS_len n U gs (i + 1) (line ++ [(n : Int) + out.length]) out
      simp only [List.length_append, List.length_cons, List.length_nil] at this ⊢; omega
theorem spec_Trim_l0 (n : Nat) (a : Int) (gs : List S46) (os : List Int) (hg : gs.length ≤ 60) (ho : os.length ≤ 60) (hok : okO (n + gs.length) os = true) (r : Int × List S46 × List Int) (K : Nat) : ∀ (d k i : Nat) (u : List Bool), i + d = os.length → d + K < k → u.length = n + gs.length →
    (∀ k, K ≤ k → spec_TrimCircuit.l1 k n (markO u (os.drop i)) ((gs.length : Int) - 1) a gs os = some r) → spec_TrimCircuit.l0 k n u os (os.length : Int) (i : Int) a gs os = some r := by
  intro d
  induction d with
  | zero =>
    intro k i u h hk hu hr
    obtain ⟨k, rfl⟩ : ∃ m, k = m + 1 := ⟨k - 1, by omega⟩
    simp only [spec_TrimCircuit.l0]
    rw [List.drop_eq_nil_of_le (by omega)] at hr
    rw [if_neg (by omega), w64 _ (by omega) (by omega)]
    exact hr k (by omega)
  | succ d ih =>
    intro k i u h hk hu hr
    obtain ⟨k, rfl⟩ : ∃ m, k = m + 1 := ⟨k - 1, by omega⟩
    simp only [spec_TrimCircuit.l0]
    have hd := okO_drop _ _ i hok
    rw [drop_rd os i (by omega), okO, Bool.and_eq_true, decide_eq_true_eq] at hd
    rw [drop_rd os i (by omega), markO] at hr
    rw [if_pos (by omega), if_pos (by omega), if_pos (by omega), if_pos hd.1.1, if_pos (by omega), w64 _ (by omega) (by omega), show (i : Int) + 1 = ((i + 1 : Nat) : Int) from by omega]
    exact ih k (i + 1) _ (by omega) (by omega) (by simpa using hu) hr
theorem spec_Trim_l1 (n : Nat) (a : Int) (gs : List S46) (os : List Int) (hn : n ≤ 11) (hg : gs.length ≤ 60) (hok : okGs n gs = true) (r : Int × List S46 × List Int) (K : Nat) : ∀ (j k : Nat) (u : List Bool), j ≤ gs.length → j + K < k → u.length = n + gs.length →
    (∀ V, V = markG n gs j u → ∀ k, K ≤ k → spec_TrimCircuit.l2 k n V ([] : List Int) 0 a gs os a = some r) → spec_TrimCircuit.l1 k n u ((j : Int) - 1) a gs os = some r := by
  intro j
  induction j with
  | zero =>
    intro k u hj hk hu hr
    obtain ⟨k, rfl⟩ : ∃ m, k = m + 1 := ⟨k - 1, by omega⟩
    simp only [spec_TrimCircuit.l1]
    rw [if_neg (by omega)]
    exact hr u rfl k (by omega)
  | succ j ih =>
    intro k u hj hk hu hr
    obtain ⟨k, rfl⟩ : ∃ m, k = m + 1 := ⟨k - 1, by omega⟩
    simp only [spec_TrimCircuit.l1]
    obtain ⟨_, a0, a1, b0, b1⟩ := okG_parts (okGs_at gs n hok j (by omega))
    rw [show ((j + 1 : Nat) : Int) - 1 = (j : Int) from by omega, if_pos (by omega), w64 _ (by omega) (by omega), w64 ((j : Int) - 1) (by omega) (by omega), if_pos (by omega), if_pos (by omega)]
    have e : rdOf false u ((n : Int) + (j : Int)) = u.getD (n + j) false := by
      unfold rdOf
      rw [show ((n : Int) + (j : Int)).toNat = n + j from by omega]
    rw [e]
    by_cases c : u.getD (n + j) false = true
    · rw [if_pos c, if_pos (by omega), if_pos (by omega), if_pos a0, if_pos (by omega), if_pos b0, if_pos (by omega)]
      exact ih k _ (by omega) (by omega) (by simpa using hu) (fun V hV => hr V (by rw [markG, if_pos c]; exact hV))
    · rw [if_neg c]
      exact ih k _ (by omega) (by omega) hu (fun V hV => hr V (by rw [markG, if_neg c]; exact hV))
theorem spec_Trim_l4 (line os : List Int) (a : Int) (gs : List S46) (ho : os.length ≤ 60) (hok : okO line.length os = true) : ∀ (d k i : Nat) (acc : List Int), i + d = os.length → d < k → acc.length = i →
    spec_TrimCircuit.l4 k  line os (os.length : Int) (i : Int) a gs acc = some (a, gs, acc ++ (os.drop i).map fun x => rd line x) := by
  intro d
  induction d with
  | zero =>
    intro k i acc h hk ha
    obtain ⟨k, rfl⟩ : ∃ m, k = m + 1 := ⟨k - 1, by omega⟩
    simp only [spec_TrimCircuit.l4]
    rw [if_neg (by omega), List.drop_eq_nil_of_le (by omega)]; simp
  | succ d ih =>
    intro k i acc h hk ha
    obtain ⟨k, rfl⟩ : ∃ m, k = m + 1 := ⟨k - 1, by omega⟩
    simp only [spec_TrimCircuit.l4]
    have hd := okO_drop _ _ i hok
    rw [drop_rd os i (by omega), okO, Bool.and_eq_true, decide_eq_true_eq] at hd
    rw [if_pos (by omega), if_pos (by omega), if_pos (by omega), if_pos hd.1.1, if_pos hd.1.2, if_pos (by omega), w64 _ (by omega) (by omega), drop_rd os i (by omega), show (i : Int) + 1 = ((i + 1 : Nat) : Int) from by omega, ih k (i + 1) _ (by omega) (by omega) (by simp; omega)]
    simp
theorem impl_Trim_l0 (n : Nat) (a : Int) (gs : List S46) (os : List Int) (hg : gs.length ≤ 60) (ho : os.length ≤ 60) (hok : okO (n + gs.length) os = true) (r : Int × List S46 × List Int) (K : Nat) : ∀ (d k i : Nat) (u : List Bool), i + d = os.length → d + K < k → u.length = n + gs.length →
    (∀ k, K ≤ k → impl_TrimCircuit.l1 k n (markO u (os.drop i)) ((gs.length : Int) - 1) a gs os = some r) → impl_TrimCircuit.l0 k n u os (os.length : Int) (i : Int) a gs os = some r := by
  intro d
  induction d with
  | zero =>
    intro k i u h hk hu hr
    obtain ⟨k, rfl⟩ : ∃ m, k = m + 1 := ⟨k - 1, by omega⟩
    simp only [impl_TrimCircuit.l0]
    rw [List.drop_eq_nil_of_le (by omega)] at hr
    rw [if_neg (by omega), w64 _ (by omega) (by omega)]
    exact hr k (by omega)
  | succ d ih =>
    intro k i u h hk hu hr
    obtain ⟨k, rfl⟩ : ∃ m, k = m + 1 := ⟨k - 1, by omega⟩
    simp only [impl_TrimCircuit.l0]
    have hd := okO_drop _ _ i hok
    rw [drop_rd os i (by omega), okO, Bool.and_eq_true, decide_eq_true_eq] at hd
    rw [drop_rd os i (by omega), markO] at hr
    rw [if_pos (by omega), if_pos (by omega), if_pos (by omega), if_pos hd.1.1, if_pos (by omega), w64 _ (by omega) (by omega), show (i : Int) + 1 = ((i + 1 : Nat) : Int) from by omega]
    exact ih k (i + 1) _ (by omega) (by omega) (by simpa using hu) hr
theorem impl_Trim_l1 (n : Nat) (a : Int) (gs : List S46) (os : List Int) (hn : n ≤ 11) (hg : gs.length ≤ 60) (hok : okGs n gs = true) (r : Int × List S46 × List Int) (K : Nat) : ∀ (j k : Nat) (u : List Bool), j ≤ gs.length → j + K < k → u.length = n + gs.length →
    (∀ V, V = markG n gs j u → ∀ k, K ≤ k → impl_TrimCircuit.l2 k n V (List.replicate V.length 0) n 0 a gs os a = some r) → impl_TrimCircuit.l1 k n u ((j : Int) - 1) a gs os = some r := by
  intro j
  induction j with
  | zero =>
    intro k u hj hk hu hr
    obtain ⟨k, rfl⟩ : ∃ m, k = m + 1 := ⟨k - 1, by omega⟩
    simp only [impl_TrimCircuit.l1]
    rw [if_neg (by omega), if_pos (by omega), if_pos (by omega), Int.toNat_natCast]
    exact hr u rfl k (by omega)
  | succ j ih =>
    intro k u hj hk hu hr
    obtain ⟨k, rfl⟩ : ∃ m, k = m + 1 := ⟨k - 1, by omega⟩
    simp only [impl_TrimCircuit.l1]
    obtain ⟨_, a0, a1, b0, b1⟩ := okG_parts (okGs_at gs n hok j (by omega))
    rw [show ((j + 1 : Nat) : Int) - 1 = (j : Int) from by omega, if_pos (by omega), w64 _ (by omega) (by omega), w64 ((j : Int) - 1) (by omega) (by omega), if_pos (by omega), if_pos (by omega)]
    have e : rdOf false u ((n : Int) + (j : Int)) = u.getD (n + j) false := by
      unfold rdOf
      rw [show ((n : Int) + (j : Int)).toNat = n + j from by omega]
    rw [e]
    by_cases c : u.getD (n + j) false = true
    · rw [if_pos c, if_pos (by omega), if_pos (by omega), if_pos a0, if_pos (by omega), if_pos b0, if_pos (by omega)]
      exact ih k _ (by omega) (by omega) (by simpa using hu) (fun V hV => hr V (by rw [markG, if_pos c]; exact hV))
    · rw [if_neg c]
      exact ih k _ (by omega) (by omega) hu (fun V hV => hr V (by rw [markG, if_neg c]; exact hV))
theorem impl_Trim_l4 (line os : List Int) (a : Int) (gs : List S46) (ho : os.length ≤ 60) (hok : okO line.length os = true) : ∀ (d k i : Nat) (acc : List Int), i + d = os.length → d < k → acc.length = i →
    impl_TrimCircuit.l4 k  line os (os.length : Int) (i : Int) a gs acc = some (a, gs, acc ++ (os.drop i).map fun x => rd line x) := by
  intro d
  induction d with
  | zero =>
    intro k i acc h hk ha
    obtain ⟨k, rfl⟩ : ∃ m, k = m + 1 := ⟨k - 1, by omega⟩
    simp only [impl_TrimCircuit.l4]
    rw [if_neg (by omega), List.drop_eq_nil_of_le (by omega)]; simp
  | succ d ih =>
    intro k i acc h hk ha
    obtain ⟨k, rfl⟩ : ∃ m, k = m + 1 := ⟨k - 1, by omega⟩
    simp only [impl_TrimCircuit.l4]
    have hd := okO_drop _ _ i hok
    rw [drop_rd os i (by omega), okO, Bool.and_eq_true, decide_eq_true_eq] at hd
    rw [if_pos (by omega), if_pos (by omega), if_pos (by omega), if_pos hd.1.1, if_pos hd.1.2, if_pos (by omega), w64 _ (by omega) (by omega), drop_rd os i (by omega), show (i : Int) + 1 = ((i + 1 : Nat) : Int) from by omega, ih k (i + 1) _ (by omega) (by omega) (by simp; omega)]
    simp
theorem spec_Trim_l2 (n : Nat) (U : List Bool) (a : Int) (gs : List S46) (os : List Int) (hn : n ≤ 11) (r : Int × List S46 × List Int) (K : Nat) (hr : ∀ k, K ≤ k → spec_TrimCircuit.l3 k n U (idx n) gs (gs.length : Int) 0 a gs os a ([] : List S46) = some r) : ∀ (d k i : Nat), i + d = n → d + K < k →
    spec_TrimCircuit.l2 k n U (idx i) (i : Int) a gs os a = some r := by
  intro d
  induction d with
  | zero =>
    intro k i h hk
    obtain ⟨k, rfl⟩ : ∃ m, k = m + 1 := ⟨k - 1, by omega⟩
    obtain rfl : i = n := by omega
    simp only [spec_TrimCircuit.l2]
    rw [if_neg (by omega)]
    exact hr k (by omega)
  | succ d ih =>
    intro k i h hk
    obtain ⟨k, rfl⟩ : ∃ m, k = m + 1 := ⟨k - 1, by omega⟩
    simp only [spec_TrimCircuit.l2]
    rw [if_pos (by omega), if_pos (by rw [idx_len]; omega), w64 _ (by omega) (by omega), ← idx_succ, show (i : Int) + 1 = ((i + 1 : Nat) : Int) from by omega]
    exact ih k (i + 1) (by omega) (by omega)
theorem impl_Trim_l2 (n : Nat) (U : List Bool) (a : Int) (gs : List S46) (os : List Int) (hn : n ≤ 11) (r : Int × List S46 × List Int) (K : Nat) (hr : ∀ k, K ≤ k → impl_TrimCircuit.l3 k n U (idx n ++ List.replicate gs.length 0) gs (gs.length : Int) 0 a gs os a ([] : List S46) = some r) : ∀ (d k i : Nat), i + d = n → d + K < k →
    impl_TrimCircuit.l2 k n U (idx i ++ List.replicate (d + gs.length) 0) (n : Int) (i : Int) a gs os a = some r := by
  intro d
  induction d with
  | zero =>
    intro k i h hk
    obtain ⟨k, rfl⟩ : ∃ m, k = m + 1 := ⟨k - 1, by omega⟩
    obtain rfl : i = n := by omega
    simp only [impl_TrimCircuit.l2]
    rw [if_neg (by omega), Nat.zero_add]
    exact hr k (by omega)
  | succ d ih =>
    intro k i h hk
    obtain ⟨k, rfl⟩ : ∃ m, k = m + 1 := ⟨k - 1, by omega⟩
    simp only [impl_TrimCircuit.l2]
    have e : (idx i ++ List.replicate (d + 1 + gs.length) (0 : Int)).set (i : Int).toNat (i : Int) = idx (i + 1) ++ List.replicate (d + gs.length) 0 := by
      rw [Int.toNat_natCast, show d + 1 + gs.length = (d + gs.length) + 1 from by omega, List.replicate_succ]
      have := set_app_len (idx i) (0 : Int) (i : Int) (List.replicate (d + gs.length) 0)
      rw [idx_len] at this
      rw [this, idx_succ]; simp
    rw [if_pos (by omega), if_pos (by omega), if_pos (by rw [List.length_append, idx_len, List.length_replicate]; omega), w64 _ (by omega) (by omega), e, show (i : Int) + 1 = ((i + 1 : Nat) : Int) from by omega]
    exact ih k (i + 1) (by omega) (by omega)
theorem spec_Trim_l3 (n : Nat) (U : List Bool) (a : Int) (gs : List S46) (os : List Int) (hn : n ≤ 11) (hg : gs.length ≤ 60) (hU : U.length = n + gs.length) (hok : okGs n gs = true) (r : Int × List S46 × List Int) (K : Nat) : ∀ (d k i : Nat) (line : List Int) (out : List S46), i + d = gs.length → d + K < k → line.length = n + i → out.length ≤ i →
    (∀ k, K ≤ k → spec_TrimCircuit.l4 k (trimS n U (gs.drop i) i line out).1 os (os.length : Int) 0 a (trimS n U (gs.drop i) i line out).2 ([] : List Int) = some r) → spec_TrimCircuit.l3 k n U line gs (gs.length : Int) (i : Int) a gs os a out = some r := by
  intro d
  induction d with
  | zero =>
    intro k i line out h hk hl ho hr
    obtain ⟨k, rfl⟩ : ∃ m, k = m + 1 := ⟨k - 1, by omega⟩
    simp only [spec_TrimCircuit.l3]
    rw [List.drop_eq_nil_of_le (by omega)] at hr
    rw [if_neg (by omega)]
    exact hr k (by omega)
  | succ d ih =>
    intro k i line out h hk hl ho hr
    obtain ⟨k, rfl⟩ : ∃ m, k = m + 1 := ⟨k - 1, by omega⟩
    simp only [spec_TrimCircuit.l3]
    obtain ⟨_, a0, a1, b0, b1⟩ := okG_parts (okGs_at gs n hok i (by omega))
    rw [drop_rdG gs i (by omega), trimS] at hr
    have hy : (line ++ [(n : Int) + out.length]).length = n + (i + 1) := by rw [List.length_append, hl]; simp only [List.length_cons, List.length_nil]; omega
    have e : rdOf false U ((n : Int) + (i : Int)) = U.getD (n + i) false := by
      unfold rdOf
      rw [show ((n : Int) + (i : Int)).toNat = n + i from by omega]
    rw [if_pos (by omega), if_pos (by omega), if_pos (by omega), if_pos (by omega), bsome, w64 ((n : Int) + (i : Int)) (by omega) (by omega), w64 ((n : Int) + (out.length : Int)) (by omega) (by omega), if_pos (by omega), if_pos (by omega), e, w64 ((i : Int) + 1) (by omega) (by omega), show (i : Int) + 1 = ((i + 1 : Nat) : Int) from by omega]
    by_cases c : U.getD (n + i) false = true
    · rw [if_pos c] at hr ⊢
      rw [if_pos a0, if_pos (by omega), if_pos b0, if_pos (by omega), if_pos (by omega)]
      exact ih k (i + 1) _ _ (by omega) (by omega) hy (by rw [List.length_append]; simp only [List.length_cons, List.length_nil]; omega) hr
    · rw [if_neg c] at hr ⊢
      exact ih k (i + 1) _ _ (by omega) (by omega) hy (by omega) hr
theorem rd_set_self (l : List Int) (m : Nat) (v : Int) (h : m < l.length) : rd (l.set m v) (m : Int) = v := by
  rw [rd_nat, List.getD_eq_getElem?_getD, List.getElem?_set_self h]; rfl
theorem rd_set_ne (l : List Int) (m x : Nat) (v : Int) (h : m ≠ x) : rd (l.set m v) (x : Int) = rd l (x : Int) := by
  rw [rd_nat, rd_nat, List.getD_eq_getElem?_getD, List.getElem?_set_ne h, List.getD_eq_getElem?_getD]
theorem impl_Trim_l3 (n : Nat) (U : List Bool) (a : Int) (gs : List S46) (os : List Int) (hn : n ≤ 11) (ha : (n : Int) = 3 + a) (hg : gs.length ≤ 60) (hU : U.length = n + gs.length) (hok : okGs n gs = true) (huse : ∀ i, i < gs.length → U.getD (n + i) false = true → U.getD (rd_T46 gs (i : Int)).f1.toNat false = true ∧ U.getD (rd_T46 gs (i : Int)).f2.toNat false = true)
    (r : Int × List S46 × List Int) (K : Nat) : ∀ (d k i : Nat) (of line : List Int) (out : List S46), i + d = gs.length → d + K < k → of.length = n + gs.length → line.length = n + i → out.length ≤ i → (∀ x : Nat, x < n + i → U.getD x false = true → rd of (x : Int) = rd line (x : Int)) →
    (∀ k, K ≤ k → ∀ of' : List Int, of'.length = n + gs.length → (∀ x : Nat, x < n + gs.length → U.getD x false = true → rd of' (x : Int) = rd (trimS n U (gs.drop i) i line out).1 (x : Int)) → impl_TrimCircuit.l4 k of' os (os.length : Int) 0 a (trimS n U (gs.drop i) i line out).2 ([] : List Int) = some r) →
    impl_TrimCircuit.l3 k n U of gs (gs.length : Int) (i : Int) a gs os a out = some r := by
  intro d
  induction d with
  | zero =>
    intro k i of line out h hk hf hl ho hinv hr
    obtain ⟨k, rfl⟩ : ∃ m, k = m + 1 := ⟨k - 1, by omega⟩
    simp only [impl_TrimCircuit.l3]
    rw [List.drop_eq_nil_of_le (by omega)] at hr
    rw [if_neg (by omega)]
    exact hr k (by omega) of hf (fun x hx => hinv x (by omega))
  | succ d ih =>
    intro k i of line out h hk hf hl ho hinv hr
    obtain ⟨k, rfl⟩ : ∃ m, k = m + 1 := ⟨k - 1, by omega⟩
    simp only [impl_TrimCircuit.l3]
    obtain ⟨_, a0, a1, b0, b1⟩ := okG_parts (okGs_at gs n hok i (by omega))
    rw [drop_rdG gs i (by omega), trimS] at hr
    have hy : (line ++ [(n : Int) + out.length]).length = n + (i + 1) := by rw [List.length_append, hl]; simp only [List.length_cons, List.length_nil]; omega
    have e : rdOf false U ((n : Int) + (i : Int)) = U.getD (n + i) false := by
      unfold rdOf
      rw [show ((n : Int) + (i : Int)).toNat = n + i from by omega]
    have old : ∀ x : Nat, x < n + i → rd (line ++ [(n : Int) + out.length]) (x : Int) = rd line (x : Int) := fun x hx => rd_append_left _ _ x (by omega)
    rw [if_pos (by omega), if_pos (by omega), if_pos (by omega), w64 ((n : Int) + (i : Int)) (by omega) (by omega), if_pos (by omega), if_pos (by omega), e, w64 ((i : Int) + 1) (by omega) (by omega), show (i : Int) + 1 = ((i + 1 : Nat) : Int) from by omega]
    by_cases c : U.getD (n + i) false = true
    · rw [if_pos c] at hr ⊢
      obtain ⟨u1, u2⟩ := huse i (by omega) c
      rw [if_pos a0, if_pos (by omega), if_pos b0, if_pos (by omega), if_pos (by omega), bsome, if_pos (by omega)]
      generalize hG : rd_T46 gs (i : Int) = g at *
      obtain ⟨p, hp⟩ := Int.eq_ofNat_of_zero_le a0
      obtain ⟨q, hq⟩ := Int.eq_ofNat_of_zero_le b0
      have e1 : rd of g.f1 = rd (line ++ [(n : Int) + out.length]) g.f1 := by
        rw [hp] at u1 a1 ⊢
        rw [old p (by omega)]; exact hinv p (by omega) (by simpa using u1)
      have e2 : rd of g.f2 = rd (line ++ [(n : Int) + out.length]) g.f2 := by
        rw [hq] at u2 b1 ⊢
        rw [old q (by omega)]; exact hinv q (by omega) (by simpa using u2)
      have ev : wrap64 (wrap64 (2 + a) + ((out ++ [(⟨g.f0, rd of g.f1, rd of g.f2⟩ : S46)]).length : Int)) = (n : Int) + out.length := by
        rw [List.length_append, List.length_singleton, w64 (2 + a) (by omega) (by omega), w64 _ (by omega) (by omega)]; omega
      have em : ((n : Int) + (i : Int)).toNat = n + i := by omega
      show impl_TrimCircuit.l3 k n U (of.set ((n : Int) + (i : Int)).toNat (wrap64 (wrap64 (2 + a) + ((out ++ [(⟨g.f0, rd of g.f1, rd of g.f2⟩ : S46)]).length : Int)))) gs (gs.length : Int) ((i + 1 : Nat) : Int) a gs os a (out ++ [(⟨g.f0, rd of g.f1, rd of g.f2⟩ : S46)]) = some r
      rw [ev, em, e1, e2]
      refine ih k (i + 1) _ _ _ (by omega) (by omega) (by simpa using hf) hy (by rw [List.length_append]; simp only [List.length_cons, List.length_nil]; omega) ?_ hr
      intro x hx ux
      by_cases cx : x = n + i
      · subst cx
        rw [rd_set_self of _ _ (by omega), ← hl, rd_append_len]
      · rw [rd_set_ne of _ x _ (by omega), old x (by omega)]
        exact hinv x (by omega) ux
    · rw [if_neg c] at hr ⊢
      refine ih k (i + 1) _ _ _ (by omega) (by omega) hf hy (by omega) ?_ hr
      intro x hx ux
      by_cases cx : x = n + i
      · subst cx; exact absurd ux c
      · rw [old x (by omega)]; exact hinv x (by omega) ux
theorem okO_mem (n : Int) : ∀ (os : List Int), okO n os = true → ∀ x ∈ os, 0 ≤ x ∧ x < n
  | [], _, x, hx => by cases hx
  | y :: os, h, x, hx => by
    rw [okO, Bool.and_eq_true, decide_eq_true_eq] at h
    rcases List.mem_cons.1 hx with rfl | hx
    · exact h.1
    · exact okO_mem n os h.2 x hx
def trimU (n : Nat) (gs : List S46) (os : List Int) : List Bool := markG n gs gs.length (markO (List.replicate (n + gs.length) false) os)
def trimOf (a : Int) (gs : List S46) (os : List Int) : Int × List S46 × List Int := if isCirc a gs os = true then (a, (trimS (3 + a).toNat (trimU (3 + a).toNat gs os) gs 0 (idx (3 + a).toNat) []).2, os.map fun x => rd (trimS (3 + a).toNat (trimU (3 + a).toNat gs os) gs 0 (idx (3 + a).toNat) []).1 x) else (0, [], [])
theorem TrimCircuit_f (k : Nat) (a : Int) (gs : List S46) (os : List Int) (hk : 4000001 ≤ k) : spec_TrimCircuit.f k a gs os = some (trimOf a gs os) ∧ impl_TrimCircuit.f k a gs os = some (trimOf a gs os) := by
  unfold spec_TrimCircuit.f impl_TrimCircuit.f trimOf
  rw [spec_IsCircuit_f k a gs os (by omega), impl_IsCircuit_f k a gs os (by omega), bsome, bsome]
  cases h : isCirc a gs os with
  | false => exact ⟨rfl, rfl⟩
  | true =>
    obtain ⟨a0, a1, g1, o1, hg, ho⟩ := isCirc_parts h
    rw [if_pos rfl, if_pos rfl, if_pos rfl]
    obtain ⟨n, hn⟩ := Int.eq_ofNat_of_zero_le (show 0 ≤ 3 + a by omega)
    rw [w64 (3 + a) (by omega) (by omega), w64 (3 + a + (gs.length : Int)) (by omega) (by omega), if_pos (by omega), if_pos (by omega), hn, Int.toNat_natCast, show ((n : Int) + (gs.length : Int)).toNat = n + gs.length from by omega]
    rw [hn] at hg ho
    have hU : (trimU n gs os).length = n + gs.length := by unfold trimU; rw [markG_len, markO_len, List.length_replicate]
    have huse : ∀ i, i < gs.length → (trimU n gs os).getD (n + i) false = true → (trimU n gs os).getD (rd_T46 gs (i : Int)).f1.toNat false = true ∧ (trimU n gs os).getD (rd_T46 gs (i : Int)).f2.toNat false = true := by
      intro i hi
      exact markG_uses n gs hg gs.length (Nat.le_refl _) _ (by rw [markO_len, List.length_replicate]) i hi
    have hout : ∀ x ∈ os, (trimU n gs os).getD x.toNat false = true := by
      intro x hx
      exact markG_mono n gs _ _ _ (markO_mem ((n : Int) + gs.length) os (List.replicate (n + gs.length) false) (by rw [List.length_replicate]; omega) ho x hx)
    have hT := trimS_len n (trimU n gs os) gs 0 (idx n) []
    rw [idx_len] at hT
    have hl4 : okO ((trimS n (trimU n gs os) gs 0 (idx n) []).1.length : Nat) os = true := by
      rw [hT.1, show ((n + gs.length : Nat) : Int) = (n : Int) + gs.length from by omega]; exact ho
    constructor
    · refine spec_Trim_l0 n a gs os g1 o1 ho _ 1000 os.length k 0 (List.replicate (n + gs.length) false) (by omega) (by omega) (by rw [List.length_replicate]) ?_
      intro k hk
      refine spec_Trim_l1 n a gs os (by omega) g1 hg _ 500 gs.length k _ (Nat.le_refl _) (by omega) (by rw [markO_len, List.length_replicate]) ?_
      intro V hV k hk
      rw [List.drop_zero] at hV
      obtain rfl : V = trimU n gs os := hV
      refine spec_Trim_l2 n _ a gs os (by omega) _ 400 ?_ n k 0 (by omega) (by omega)
      intro k hk
      refine spec_Trim_l3 n _ a gs os (by omega) g1 hU hg _ 300 gs.length k 0 (idx n) [] (by omega) (by omega) (by rw [idx_len]; rfl) (by simp) ?_
      intro k hk
      rw [List.drop_zero]
      have := spec_Trim_l4 (trimS n (trimU n gs os) gs 0 (idx n) []).1 os a (trimS n (trimU n gs os) gs 0 (idx n) []).2 o1 hl4 os.length k 0 [] (by omega) (by omega) rfl
      simpa using this
    · rw [if_pos (by omega), if_pos (by omega)]
      refine impl_Trim_l0 n a gs os g1 o1 ho _ 1000 os.length k 0 (List.replicate (n + gs.length) false) (by omega) (by omega) (by rw [List.length_replicate]) ?_
      intro k hk
      refine impl_Trim_l1 n a gs os (by omega) g1 hg _ 500 gs.length k _ (Nat.le_refl _) (by omega) (by rw [markO_len, List.length_replicate]) ?_
      intro V hV k hk
      rw [List.drop_zero] at hV
      obtain rfl : V = trimU n gs os := hV
      rw [hU]
      refine impl_Trim_l2 n _ a gs os (by omega) _ 400 ?_ n k 0 (by omega) (by omega)
      intro k hk
      refine impl_Trim_l3 n _ a gs os (by omega) hn.symm g1 hU hg huse _ 300 gs.length k 0 _ (idx n) [] (by omega) (by omega) (by rw [List.length_append, idx_len, List.length_replicate]) (by rw [idx_len]; rfl) (by simp) ?_ ?_
      · intro x hx _
        exact rd_append_left _ _ x (by rw [idx_len]; omega)
      intro k hk of' hf hof
      rw [List.drop_zero] at hof ⊢
      have := impl_Trim_l4 of' os a (trimS n (trimU n gs os) gs 0 (idx n) []).2 o1 (by rw [hf, ← hT.1]; exact hl4) os.length k 0 [] (by omega) (by omega) rfl
      simp only [List.drop_zero, Int.natCast_zero, List.nil_append] at this
      rw [this]
      congr 3
      apply List.map_congr_left
      intro x hx
      have hb := okO_mem _ os ho x hx
      obtain ⟨m, rfl⟩ := Int.eq_ofNat_of_zero_le hb.1
      exact hof m (by omega) (by simpa using hout _ hx)
theorem trimOf_len (a : Int) (gs : List S46) (os : List Int) : (trimOf a gs os).2.1.length ≤ 60 ∧ (trimOf a gs os).2.2.length ≤ 60 := by
  unfold trimOf
  split
  · rename_i h
    obtain ⟨_, _, g1, o1, _, _⟩ := isCirc_parts h
    have := (trimS_len (3 + a).toNat (trimU (3 + a).toNat gs os) gs 0 (idx (3 + a).toNat) []).2
    exact ⟨by simp only [List.length_nil] at this; show (trimS _ _ _ _ _ _).2.length ≤ 60; omega, by simpa using o1⟩
  · exact ⟨by simp, by simp⟩
end FnExactTrimCircuitParts
open FnExactTrimCircuitParts
attribute [local congr] bind_left

theorem FnExactTrimCircuit : laws_FnExactTrimCircuit.Pure := by
  intro a l m _ hl hm
  obtain ⟨K, hK⟩ : ∃ K, 100000000 ≤ K := ⟨_, Nat.le_refl _⟩
  refine ⟨K + 4, ?_⟩
  unfold laws_FnExactTrimCircuit.f
  obtain ⟨v, ev, hv⟩ := laws_szCircuit_f a l m 1048576 hl.1 hm.1 (by omega) (by omega)
  rw [ev, bsome]
  by_cases h0 : v < 0
  · rw [if_pos h0]
  · have hb : (l.length : Int) ≤ 1048576 ∧ (m.length : Int) ≤ 1048576 := by omega
    have hgl : (l.map gOf).length ≤ 2000000 := by rw [List.length_map]; omega
    have f := fun k (hk : 4000001 ≤ k) => (TrimCircuit_f k a (l.map gOf) m hk).1
    have g := fun k (hk : 4000001 ≤ k) => (TrimCircuit_f k a (l.map gOf) m hk).2
    have hr := trimOf_len a (l.map gOf) m
    have tc := fun k (hk : 4000001 ≤ k) => laws_toCircuit_f k a l m (by omega) (by omega) (by omega)
    have ec := fun k (hk : 4000001 ≤ k) => laws_eqCircuit_same k a (l.map gOf) m (by omega) hgl (by omega)
    have mc := fun k (hk : 4000001 ≤ k) => laws_markCircuit_f k a (l.map gOf) m 1 (by omega) hgl (by omega) (by omega) (by omega)
    rw [if_neg h0]
    generalize trimOf a (l.map gOf) m = r at *
    obtain ⟨n, gs, os⟩ := r
    have hg : gs.length ≤ 60 := hr.1
    have ho : os.length ≤ 60 := hr.2
    have ec2 := fun k (hk : 4000001 ≤ k) => laws_eqCircuit_same k n gs os (by omega) (by omega) (by omega)
    have mc2 := fun k (hk : 4000001 ≤ k) => laws_markCircuit_f k n gs os 1 (by omega) (by omega) (by omega) (by omega) (by omega)
    have hc2 := fun k (hk : 4000001 ≤ k) => laws_heldCircuit_marks k n 1 gs.length os.length (by omega) (by omega) (by omega) (by omega) (by omega)
    simp (disch := omega) only [↓if_pos, ↓if_neg, ↓reduceIte, bsome, decide_true, bne_self_eq_false, Bool.false_eq_true, Bool.not_true, f, g, tc, ec, mc, ec2, mc2, hc2, laws_FnExactTrimCircuit.j0]

end Go.Proofs.Ytaopbkbjfmfcdaa.Pure
