/- For all whole numbers the program's AdderCircuit gives what the reference gives, in memory of its own; no condition. -/
import Derived.Test.YtaopbkbjfmfcdaaZSgPSg8
import Derived.Test.YtaopbkbjfmfcdaaZSgGlue
namespace Go.Proofs.Ytaopbkbjfmfcdaa.Pure
open Go.RowKit Go.Proofs.Ytaopbkbjfmfcdaa.Tern Go.Proofs.Ytaopbkbjfmfcdaa.P Go.Proofs.YtaopbkbjfmfcdaaW.PrintWords Go.Proofs.YtaopbkbjfmfcdaaW.PrintLast
set_option linter.unusedVariables false
set_option linter.unusedSimpArgs false

namespace FnExactAdderCircuitParts
theorem spec_l1In_f (x a b : Int) : spec_l1In.f x a b = some (decide (a ≤ x ∧ x ≤ b)) := by
  unfold spec_l1In.f
  split
  · rename_i h
    simp [show a ≤ x from h]
  · rename_i h
    have : ¬ (a ≤ x) := h
    simp [this]
theorem laws_eqIntS_l0 (a b : List Int) (hl : a.length ≤ 2000000) (hb : a.length = b.length) : ∀ (d k i : Nat), i + d = a.length → d < k →
    laws_eqIntS.l0 k a b (i : Int) = some (decide (a.drop i = b.drop i)) := by
  intro d
  induction d with
  | zero =>
    intro k i h hk
    obtain ⟨k, rfl⟩ : ∃ m, k = m + 1 := ⟨k - 1, by omega⟩
    simp only [laws_eqIntS.l0]
    rw [if_neg (by omega), List.drop_eq_nil_of_le (by omega), List.drop_eq_nil_of_le (by omega)]; simp
  | succ d ih =>
    intro k i h hk
    obtain ⟨k, rfl⟩ : ∃ m, k = m + 1 := ⟨k - 1, by omega⟩
    simp only [laws_eqIntS.l0]
    rw [if_pos (by omega), if_pos (by omega), if_pos (by omega), drop_rd a i (by omega), drop_rd b i (by omega), w64 _ (by omega) (by omega)]
    by_cases c : rd a (i : Int) = rd b (i : Int)
    · rw [if_pos c, show (i : Int) + 1 = ((i + 1 : Nat) : Int) from by omega, ih k (i + 1) (by omega) (by omega)]
      simp [c]
    · rw [if_neg c]; simp [c]
theorem laws_eqIntS_f (k : Nat) (a b : List Int) (hk : 2000001 ≤ k) (hl : a.length ≤ 2000000) : laws_eqIntS.f k a b = some (decide (a = b)) := by
  unfold laws_eqIntS.f
  by_cases h : a.length = b.length
  · rw [if_pos (by omega)]
    have := laws_eqIntS_l0 a b hl h a.length k 0 (by omega) (by omega)
    simpa using this
  · rw [if_neg (by omega)]
    have : a ≠ b := fun e => h (by rw [e])
    simp [this]
theorem laws_markIntS_l0 : ∀ (rest pre : List Int) (k : Nat) (m : Int), (pre ++ rest).length ≤ 2000000 → rest.length < k → 0 ≤ m → m ≤ 1000000000000 → m + rest.length ≤ 1000000000000 →
    laws_markIntS.l0 k (pre ++ rest) m (pre.length : Int) = some (m + rest.length, pre ++ marks m rest.length) := by
  intro rest
  induction rest with
  | nil =>
    intro pre k m hl hk h0 h1 h2
    obtain ⟨k, rfl⟩ : ∃ m, k = m + 1 := ⟨k - 1, by simp only [List.length_nil] at hk; omega⟩
    simp only [laws_markIntS.l0]
    rw [if_neg (by simp)]; simp [marks]
  | cons x rest ih =>
    intro pre k m hl hk h0 h1 h2
    simp only [List.length_cons, List.length_append] at *
    obtain ⟨k, rfl⟩ : ∃ m, k = m + 1 := ⟨k - 1, by omega⟩
    simp only [laws_markIntS.l0]
    rw [if_pos (by simp only [List.length_append, List.length_cons]; omega), if_pos (by omega), Int.toNat_natCast, set_append_len, w64 _ (by omega) (by omega), w64 _ (by omega) (by omega)]
    have := ih (pre ++ [m]) k (m + 1) (by simp; omega) (by omega) (by omega) (by omega) (by omega)
    simp only [List.append_assoc, List.singleton_append, List.length_append, List.length_singleton] at this
    rw [show (pre.length : Int) + 1 = ((pre.length + 1 : Nat) : Int) from by omega, this]
    simp [marks]; omega
theorem laws_markIntS_f (k : Nat) (l : List Int) (m : Int) (hk : 2000001 ≤ k) (hl : l.length ≤ 2000000) (h0 : 0 ≤ m) (h1 : m ≤ 10000000000) : laws_markIntS.f k l m = some (m + l.length, marks m l.length) := by
  unfold laws_markIntS.f
  have := laws_markIntS_l0 l [] k m (by simpa using hl) (by omega) h0 (by omega) (by omega)
  simpa using this
theorem laws_heldIntS_l0 (l : List Int) (hl : l.length ≤ 2000000) : ∀ (d k i : Nat) (m : Int), i + d = l.length → d < k → 0 ≤ m → m + d ≤ 1000000000000 →
    laws_heldIntS.l0 k l m (i : Int) = some (if l.drop i = marks m d then m + d else -1) := by
  intro d
  induction d with
  | zero =>
    intro k i m h hk h0 h1
    obtain ⟨k, rfl⟩ : ∃ m, k = m + 1 := ⟨k - 1, by omega⟩
    simp only [laws_heldIntS.l0]
    rw [if_neg (by omega), List.drop_eq_nil_of_le (by omega)]; simp [marks]
  | succ d ih =>
    intro k i m h hk h0 h1
    obtain ⟨k, rfl⟩ : ∃ m, k = m + 1 := ⟨k - 1, by omega⟩
    simp only [laws_heldIntS.l0]
    rw [if_pos (by omega), if_pos (by omega), drop_rd l i (by omega), w64 _ (by omega) (by omega), w64 _ (by omega) (by omega)]
    simp only [marks, List.cons.injEq]
    by_cases c : rd l (i : Int) = m
    · rw [if_pos c, show (i : Int) + 1 = ((i + 1 : Nat) : Int) from by omega, ih k (i + 1) (m + 1) (by omega) (by omega) (by omega) (by omega)]
      simp only [c, true_and]
      split
      · congr 1; omega
      · rfl
    · rw [if_neg c, if_neg (fun hh => c hh.1)]
theorem laws_heldIntS_f (k : Nat) (l : List Int) (m : Int) (hk : 2000001 ≤ k) (hl : l.length ≤ 2000000) (h0 : 0 ≤ m) (h1 : m ≤ 10000000000) : laws_heldIntS.f k l m = some (if l = marks m l.length then m + l.length else -1) := by
  unfold laws_heldIntS.f
  have := laws_heldIntS_l0 l hl l.length k 0 m (by omega) (by omega) h0 (by omega)
  simpa using this
theorem laws_heldIntS_marks (k : Nat) (m : Int) (n : Nat) (hk : 2000001 ≤ k) (hl : n ≤ 2000000) (h0 : 0 ≤ m) (h1 : m ≤ 10000000000) : laws_heldIntS.f k (marks m n) m = some (m + n) := by
  rw [laws_heldIntS_f k (marks m n) m hk (by rw [length_marks]; exact hl) h0 h1, length_marks, if_pos rfl]
theorem laws_eqGateS_l0 (a : List S46) (hl : a.length ≤ 2000000) : ∀ (d k i : Nat), i + d = a.length → d < k → laws_eqGateS.l0 k a a (i : Int) = some true := by
  intro d
  induction d with
  | zero =>
    intro k i h hk
    obtain ⟨k, rfl⟩ : ∃ m, k = m + 1 := ⟨k - 1, by omega⟩
    simp only [laws_eqGateS.l0]
    rw [if_neg (by omega)]
  | succ d ih =>
    intro k i h hk
    obtain ⟨k, rfl⟩ : ∃ m, k = m + 1 := ⟨k - 1, by omega⟩
    simp only [laws_eqGateS.l0]
    rw [if_pos (by omega), if_pos (by omega), if_pos (by omega)]
    generalize rd_T46 a (i : Int) = g
    have e : laws_eqGate.f g.f0.f0 g.f0.f1 g.f0.f2 g.f0.f3 g.f0.f4 g.f0.f5 g.f0.f6 g.f0.f7 g.f0.f8 g.f1 g.f2 g.f0.f0 g.f0.f1 g.f0.f2 g.f0.f3 g.f0.f4 g.f0.f5 g.f0.f6 g.f0.f7 g.f0.f8 g.f1 g.f2 = some true := by
      unfold laws_eqGate.f laws_eqTable.f
      rw [bsome, if_pos (by unfold eqL; exact decide_eq_true rfl), if_pos rfl, if_pos rfl]
    rw [e, bsome, if_pos rfl, w64 _ (by omega) (by omega), show (i : Int) + 1 = ((i + 1 : Nat) : Int) from by omega]
    exact ih k (i + 1) (by omega) (by omega)
theorem laws_eqGateS_same (k : Nat) (a : List S46) (hk : 2000001 ≤ k) (hl : a.length ≤ 2000000) : laws_eqGateS.f k a a = some true := by
  unfold laws_eqGateS.f
  rw [if_pos rfl]
  exact laws_eqGateS_l0 a hl a.length k 0 (by omega) (by omega)
theorem laws_eqCircuit_same (k : Nat) (a : Int) (l : List S46) (m : List Int) (hk : 2000001 ≤ k) (hl : l.length ≤ 2000000) (hm : m.length ≤ 2000000) : laws_eqCircuit.f k a l m a l m = some true := by
  unfold laws_eqCircuit.f
  rw [if_pos rfl, laws_eqGateS_same k l hk hl, bsome, if_pos rfl, laws_eqIntS_f k m m hk hm, bsome, if_pos (decide_eq_true rfl)]
theorem marksG_len (a : Int) (n : Nat) : (marksG a n).length = n := by simp [marksG]
theorem laws_markCircuit_f (k : Nat) (a : Int) (l : List S46) (m : List Int) (z : Int) (hk : 2000001 ≤ k) (hl : l.length ≤ 2000000) (hm : m.length ≤ 2000000) (h0 : 0 ≤ z) (h1 : z ≤ 1000000) : laws_markCircuit.f k a l m z = some (z + 11 * (l.length : Int) + m.length, marksG z l.length, marks (z + 11 * (l.length : Int)) m.length) := by
  unfold laws_markCircuit.f laws_markGateS.f
  rw [if_pos ⟨by omega, by omega, by omega⟩, bsome, laws_markIntS_f k m _ hk hm (by omega) (by omega), bsome]
/-- More rounds tell the same. -/
theorem up_of {α : Type} (F : Nat → Option α) (hm : ∀ k, LeO (F k) (F (k + 1))) (r : α) (n : Nat) (h : F n = some r) : ∀ k, n ≤ k → F k = some r := by
  intro k hk
  induction k with
  | zero => have : n = 0 := by omega
            subst this; exact h
  | succ k ih =>
    by_cases c : n = k + 1
    · rw [← c]; exact h
    · exact hm k r (ih (by omega))
theorem laws_heldCircuit_marks (k : Nat) (a z : Int) (n m : Nat) (hk : 2000001 ≤ k) (hl : n ≤ 2000000) (hm : m ≤ 2000000) (h0 : 0 ≤ z) (h1 : z ≤ 1000000) : laws_heldCircuit.f k a (marksG z n) (marks (z + 11 * (n : Int)) m) z = some (z + 11 * (n : Int) + m) := by
  unfold laws_heldCircuit.f laws_heldGateS.f
  rw [marksG_len, if_pos ⟨by omega, by omega, by omega⟩, if_pos rfl, bsome, if_neg (by omega), laws_heldIntS_marks k _ m hk hm (by omega) (by omega), bsome, if_neg (by omega)]
theorem AdderCircuit_f (k : Nat) (a : Int) (hk : 200 ≤ k) : ∃ n gs os b, spec_AdderCircuit.f k a = some (n, gs, os, b) ∧ impl_AdderCircuit.f k a = some (n, gs, os, b) ∧ gs.length ≤ 60 ∧ os.length ≤ 60 := by
  have fin : ∀ a : Int, (spec_AdderCircuit.f 100 a = impl_AdderCircuit.f 100 a) → ((spec_AdderCircuit.f 100 a).any fun r => decide (r.2.1.length ≤ 60) && decide (r.2.2.1.length ≤ 60)) = true → ∃ n gs os b, spec_AdderCircuit.f k a = some (n, gs, os, b) ∧ impl_AdderCircuit.f k a = some (n, gs, os, b) ∧ gs.length ≤ 60 ∧ os.length ≤ 60 := by
    intro a e h
    cases hs : spec_AdderCircuit.f 100 a with
    | none => rw [hs] at h; cases h
    | some r =>
      obtain ⟨n, gs, os, b⟩ := r
      rw [hs] at h e
      simp only [Option.any_some, Bool.and_eq_true, decide_eq_true_eq] at h
      exact ⟨n, gs, os, b, up_of (fun k => spec_AdderCircuit.f k a) (spec_AdderCircuit.mono a) _ 100 hs k (by omega), up_of (fun k => impl_AdderCircuit.f k a) (impl_AdderCircuit.mono a) _ 100 e.symm k (by omega), h.1, h.2⟩
  by_cases c : 1 ≤ a ∧ a ≤ 4
  · have : a = 1 ∨ a = 2 ∨ a = 3 ∨ a = 4 := by omega
    rcases this with rfl | rfl | rfl | rfl
    · exact fin 1 (by kernel_rfl) (by kernel_rfl)
    · exact fin 2 (by kernel_rfl) (by kernel_rfl)
    · exact fin 3 (by kernel_rfl) (by kernel_rfl)
    · exact fin 4 (by kernel_rfl) (by kernel_rfl)
  · refine ⟨0, [], [], false, ?_, ?_, by simp, by simp⟩
    · unfold spec_AdderCircuit.f
      rw [spec_l1In_f, bsome, decide_eq_false c, if_neg (by decide)]
    · obtain ⟨k, rfl⟩ : ∃ m, k = m + 1 := ⟨k - 1, by omega⟩
      unfold impl_AdderCircuit.f
      by_cases c1 : a < 1
      · rw [if_pos c1, impl_AdderCircuit.j0, if_pos rfl]
      · rw [if_neg c1, decide_eq_true (show a > 4 by omega), impl_AdderCircuit.j0, if_pos rfl]
end FnExactAdderCircuitParts
open FnExactAdderCircuitParts
attribute [local congr] bind_left

theorem FnExactAdderCircuit : laws_FnExactAdderCircuit.Pure := by
  intro a
  intros
  obtain ⟨K, hK⟩ : ∃ K, 100000000 ≤ K := ⟨_, Nat.le_refl _⟩
  refine ⟨K + 4, ?_⟩
  obtain ⟨n, gs, os, b, g1, g2, hg, ho⟩ := AdderCircuit_f (K + 4) a (by omega)
  have hs : ∀ k, 200 ≤ k → spec_AdderCircuit.f k a = some (n, gs, os, b) ∧ impl_AdderCircuit.f k a = some (n, gs, os, b) := by
    intro k hk
    obtain ⟨n', gs', os', b', e1, e2, _, _⟩ := AdderCircuit_f 200 a (by omega)
    have f1 := up_of (fun k => spec_AdderCircuit.f k a) (spec_AdderCircuit.mono a) _ 200 e1
    have f2 := up_of (fun k => impl_AdderCircuit.f k a) (impl_AdderCircuit.mono a) _ 200 e2
    have : (n', gs', os', b') = (n, gs, os, b) := Option.some.inj ((f1 (K + 4) (by omega)).symm.trans g1)
    rw [← this]
    exact ⟨f1 k hk, f2 k hk⟩
  have s1 := fun k hk => (hs k hk).1
  have s2 := fun k hk => (hs k hk).2
  have ec := fun k (hk : 4000001 ≤ k) => laws_eqCircuit_same k n gs os (by omega) (by omega) (by omega)
  have mc := fun k (hk : 4000001 ≤ k) => laws_markCircuit_f k n gs os 1 (by omega) (by omega) (by omega) (by omega) (by omega)
  have hc := fun k (hk : 4000001 ≤ k) => laws_heldCircuit_marks k n 1 gs.length os.length (by omega) (by omega) (by omega) (by omega) (by omega)
  unfold laws_FnExactAdderCircuit.f
  simp (disch := omega) only [↓if_pos, ↓if_neg, ↓reduceIte, bsome, decide_true, bne_self_eq_false, Bool.false_eq_true, s1, s2, ec, mc, hc, laws_FnExactAdderCircuit.j0, laws_FnExactAdderCircuit.j1]

end Go.Proofs.Ytaopbkbjfmfcdaa.Pure
