/- For all tables the program's BuildCircuit gives what the reference gives, in memory of its own; no condition. -/
import Derived.Test.YtaopbkbjfmfcdaaZSbPSh9
import Derived.Test.YtaopbkbjfmfcdaaZSbGlue
namespace Go.Proofs.Ytaopbkbjfmfcdaa.Pure
open Go.RowKit Go.Proofs.Ytaopbkbjfmfcdaa.Tern Go.Proofs.Ytaopbkbjfmfcdaa.P Go.Proofs.YtaopbkbjfmfcdaaW.PrintWords Go.Proofs.YtaopbkbjfmfcdaaW.PrintLast
set_option linter.unusedVariables false
set_option linter.unusedSimpArgs false

namespace FnExactBuildCircuitParts
theorem laws_eqIntS_l0 (a b : List Int) (hl : a.length ≤ 2000000) (hb : a.length = b.length) : ∀ (d k i : Nat), i + d = a.length → d < k →
    laws_eqIntS.l0 k a b (i : Int) = some (decide (a.drop i = b.drop i)) := by
  intro d
  induction d with
  | zero =>
    intro k i h hk
    obtain ⟨k, rfl⟩ : ∃ m, k = m + 1 := ⟨k - 1, by omega⟩
    simp only [laws_eqIntS.l0]
    rw [if_neg (by omega), List.drop_eq_nil_of_le (by omega), List.drop_eq_nil_of_le (by omega)]; simp
  | succ d ih =>
    intro k i h hk
    obtain ⟨k, rfl⟩ : ∃ m, k = m + 1 := ⟨k - 1, by omega⟩
    simp only [laws_eqIntS.l0]
    rw [if_pos (by omega), if_pos (by omega), if_pos (by omega), drop_rd a i (by omega), drop_rd b i (by omega), w64 _ (by omega) (by omega)]
    by_cases c : rd a (i : Int) = rd b (i : Int)
    · rw [if_pos c, show (i : Int) + 1 = ((i + 1 : Nat) : Int) from by omega, ih k (i + 1) (by omega) (by omega)]
      simp [c]
    · rw [if_neg c]; simp [c]
theorem laws_eqIntS_f (k : Nat) (a b : List Int) (hk : 2000001 ≤ k) (hl : a.length ≤ 2000000) : laws_eqIntS.f k a b = some (decide (a = b)) := by
  unfold laws_eqIntS.f
  by_cases h : a.length = b.length
  · rw [if_pos (by omega)]
    have := laws_eqIntS_l0 a b hl h a.length k 0 (by omega) (by omega)
    simpa using this
  · rw [if_neg (by omega)]
    have : a ≠ b := fun e => h (by rw [e])
    simp [this]
theorem laws_markIntS_l0 : ∀ (rest pre : List Int) (k : Nat) (m : Int), (pre ++ rest).length ≤ 2000000 → rest.length < k → 0 ≤ m → m ≤ 1000000000000 → m + rest.length ≤ 1000000000000 →
    laws_markIntS.l0 k (pre ++ rest) m (pre.length : Int) = some (m + rest.length, pre ++ marks m rest.length) := by
  intro rest
  induction rest with
  | nil =>
    intro pre k m hl hk h0 h1 h2
    obtain ⟨k, rfl⟩ : ∃ m, k = m + 1 := ⟨k - 1, by simp only [List.length_nil] at hk; omega⟩
    simp only [laws_markIntS.l0]
    rw [if_neg (by simp)]; simp [marks]
  | cons x rest ih =>
    intro pre k m hl hk h0 h1 h2
    simp only [List.length_cons, List.length_append] at *
    obtain ⟨k, rfl⟩ : ∃ m, k = m + 1 := ⟨k - 1, by omega⟩
    simp only [laws_markIntS.l0]
    rw [if_pos (by simp only [List.length_append, List.length_cons]; omega), if_pos (by omega), Int.toNat_natCast, set_append_len, w64 _ (by omega) (by omega), w64 _ (by omega) (by omega)]
    have := ih (pre ++ [m]) k (m + 1) (by simp; omega) (by omega) (by omega) (by omega) (by omega)
    simp only [List.append_assoc, List.singleton_append, List.length_append, List.length_singleton] at this
    rw [show (pre.length : Int) + 1 = ((pre.length + 1 : Nat) : Int) from by omega, this]
    simp [marks]; omega
theorem laws_markIntS_f (k : Nat) (l : List Int) (m : Int) (hk : 2000001 ≤ k) (hl : l.length ≤ 2000000) (h0 : 0 ≤ m) (h1 : m ≤ 10000000000) : laws_markIntS.f k l m = some (m + l.length, marks m l.length) := by
  unfold laws_markIntS.f
  have := laws_markIntS_l0 l [] k m (by simpa using hl) (by omega) h0 (by omega) (by omega)
  simpa using this
theorem laws_heldIntS_l0 (l : List Int) (hl : l.length ≤ 2000000) : ∀ (d k i : Nat) (m : Int), i + d = l.length → d < k → 0 ≤ m → m + d ≤ 1000000000000 →
    laws_heldIntS.l0 k l m (i : Int) = some (if l.drop i = marks m d then m + d else -1) := by
  intro d
  induction d with
  | zero =>
    intro k i m h hk h0 h1
    obtain ⟨k, rfl⟩ : ∃ m, k = m + 1 := ⟨k - 1, by omega⟩
    simp only [laws_heldIntS.l0]
    rw [if_neg (by omega), List.drop_eq_nil_of_le (by omega)]; simp [marks]
  | succ d ih =>
    intro k i m h hk h0 h1
    obtain ⟨k, rfl⟩ : ∃ m, k = m + 1 := ⟨k - 1, by omega⟩
    simp only [laws_heldIntS.l0]
    rw [if_pos (by omega), if_pos (by omega), drop_rd l i (by omega), w64 _ (by omega) (by omega), w64 _ (by omega) (by omega)]
    simp only [marks, List.cons.injEq]
    by_cases c : rd l (i : Int) = m
    · rw [if_pos c, show (i : Int) + 1 = ((i + 1 : Nat) : Int) from by omega, ih k (i + 1) (m + 1) (by omega) (by omega) (by omega) (by omega)]
      simp only [c, true_and]
      split
      · congr 1; omega
      · rfl
    · rw [if_neg c, if_neg (fun hh => c hh.1)]
theorem laws_heldIntS_f (k : Nat) (l : List Int) (m : Int) (hk : 2000001 ≤ k) (hl : l.length ≤ 2000000) (h0 : 0 ≤ m) (h1 : m ≤ 10000000000) : laws_heldIntS.f k l m = some (if l = marks m l.length then m + l.length else -1) := by
  unfold laws_heldIntS.f
  have := laws_heldIntS_l0 l hl l.length k 0 m (by omega) (by omega) h0 (by omega)
  simpa using this
theorem laws_heldIntS_marks (k : Nat) (m : Int) (n : Nat) (hk : 2000001 ≤ k) (hl : n ≤ 2000000) (h0 : 0 ≤ m) (h1 : m ≤ 10000000000) : laws_heldIntS.f k (marks m n) m = some (m + n) := by
  rw [laws_heldIntS_f k (marks m n) m hk (by rw [length_marks]; exact hl) h0 h1, length_marks, if_pos rfl]
theorem laws_eqGateS_l0 (a : List S46) (hl : a.length ≤ 2000000) : ∀ (d k i : Nat), i + d = a.length → d < k → laws_eqGateS.l0 k a a (i : Int) = some true := by
  intro d
  induction d with
  | zero =>
    intro k i h hk
    obtain ⟨k, rfl⟩ : ∃ m, k = m + 1 := ⟨k - 1, by omega⟩
    simp only [laws_eqGateS.l0]
    rw [if_neg (by omega)]
  | succ d ih =>
    intro k i h hk
    obtain ⟨k, rfl⟩ : ∃ m, k = m + 1 := ⟨k - 1, by omega⟩
    simp only [laws_eqGateS.l0]
    rw [if_pos (by omega), if_pos (by omega), if_pos (by omega)]
    generalize rd_T46 a (i : Int) = g
    have e : laws_eqGate.f g.f0.f0 g.f0.f1 g.f0.f2 g.f0.f3 g.f0.f4 g.f0.f5 g.f0.f6 g.f0.f7 g.f0.f8 g.f1 g.f2 g.f0.f0 g.f0.f1 g.f0.f2 g.f0.f3 g.f0.f4 g.f0.f5 g.f0.f6 g.f0.f7 g.f0.f8 g.f1 g.f2 = some true := by
      unfold laws_eqGate.f laws_eqTable.f
      rw [bsome, if_pos (by unfold eqL; exact decide_eq_true rfl), if_pos rfl, if_pos rfl]
    rw [e, bsome, if_pos rfl, w64 _ (by omega) (by omega), show (i : Int) + 1 = ((i + 1 : Nat) : Int) from by omega]
    exact ih k (i + 1) (by omega) (by omega)
theorem laws_eqGateS_same (k : Nat) (a : List S46) (hk : 2000001 ≤ k) (hl : a.length ≤ 2000000) : laws_eqGateS.f k a a = some true := by
  unfold laws_eqGateS.f
  rw [if_pos rfl]
  exact laws_eqGateS_l0 a hl a.length k 0 (by omega) (by omega)
theorem laws_eqCircuit_same (k : Nat) (a : Int) (l : List S46) (m : List Int) (hk : 2000001 ≤ k) (hl : l.length ≤ 2000000) (hm : m.length ≤ 2000000) : laws_eqCircuit.f k a l m a l m = some true := by
  unfold laws_eqCircuit.f
  rw [if_pos rfl, laws_eqGateS_same k l hk hl, bsome, if_pos rfl, laws_eqIntS_f k m m hk hm, bsome, if_pos (decide_eq_true rfl)]
theorem marksG_len (a : Int) (n : Nat) : (marksG a n).length = n := by simp [marksG]
theorem laws_markCircuit_f (k : Nat) (a : Int) (l : List S46) (m : List Int) (z : Int) (hk : 2000001 ≤ k) (hl : l.length ≤ 2000000) (hm : m.length ≤ 2000000) (h0 : 0 ≤ z) (h1 : z ≤ 1000000) : laws_markCircuit.f k a l m z = some (z + 11 * (l.length : Int) + m.length, marksG z l.length, marks (z + 11 * (l.length : Int)) m.length) := by
  unfold laws_markCircuit.f laws_markGateS.f
  rw [if_pos ⟨by omega, by omega, by omega⟩, bsome, laws_markIntS_f k m _ hk hm (by omega) (by omega), bsome]
/-- More rounds tell the same. -/
theorem up_of {α : Type} (F : Nat → Option α) (hm : ∀ k, LeO (F k) (F (k + 1))) (r : α) (n : Nat) (h : F n = some r) : ∀ k, n ≤ k → F k = some r := by
  intro k hk
  induction k with
  | zero => have : n = 0 := by omega
            subst this; exact h
  | succ k ih =>
    by_cases c : n = k + 1
    · rw [← c]; exact h
    · exact hm k r (ih (by omega))
theorem laws_heldCircuit_marks (k : Nat) (a z : Int) (n m : Nat) (hk : 2000001 ≤ k) (hl : n ≤ 2000000) (hm : m ≤ 2000000) (h0 : 0 ≤ z) (h1 : z ≤ 1000000) : laws_heldCircuit.f k a (marksG z n) (marks (z + 11 * (n : Int)) m) z = some (z + 11 * (n : Int) + m) := by
  unfold laws_heldCircuit.f laws_heldGateS.f
  rw [marksG_len, if_pos ⟨by omega, by omega, by omega⟩, if_pos rfl, bsome, if_neg (by omega), laws_heldIntS_marks k _ m hk hm (by omega) (by omega), bsome, if_neg (by omega)]
/-- The literals of two inputs. -/
def lits6 : List S46 := [⟨⟨1, 1, 1, -1, -1, -1, -1, -1, -1⟩, 3, 3⟩, ⟨⟨-1, -1, -1, 1, 1, 1, -1, -1, -1⟩, 3, 3⟩, ⟨⟨-1, -1, -1, -1, -1, -1, 1, 1, 1⟩, 3, 3⟩, ⟨⟨1, 1, 1, -1, -1, -1, -1, -1, -1⟩, 4, 4⟩, ⟨⟨-1, -1, -1, 1, 1, 1, -1, -1, -1⟩, 4, 4⟩, ⟨⟨-1, -1, -1, -1, -1, -1, 1, 1, 1⟩, 4, 4⟩]
theorem two_tables (k : Nat) (hk : 100 ≤ k) : (spec_TableOf.f k (⟨#[109, 105, 110]⟩ : ByteArray) = some (-1, -1, -1, -1, 0, 0, -1, 0, 1) ∧ impl_TableOf.f (⟨#[109, 105, 110]⟩ : ByteArray) = some (-1, -1, -1, -1, 0, 0, -1, 0, 1)) ∧ (spec_TableOf.f k (⟨#[109, 97, 120]⟩ : ByteArray) = some (-1, 0, 1, 0, 0, 1, 1, 1, 1) ∧ impl_TableOf.f (⟨#[109, 97, 120]⟩ : ByteArray) = some (-1, 0, 1, 0, 0, 1, 1, 1, 1)) :=
  ⟨⟨up_of (fun k => spec_TableOf.f k (⟨#[109, 105, 110]⟩ : ByteArray)) (spec_TableOf.mono _) _ 100 (by kernel_rfl) k hk, by kernel_rfl⟩, ⟨up_of (fun k => spec_TableOf.f k (⟨#[109, 97, 120]⟩ : ByteArray)) (spec_TableOf.mono _) _ 100 (by kernel_rfl) k hk, by kernel_rfl⟩⟩
theorem build_idx : ∀ i : Nat, i < 9 → (rd ([5, 6, 7] : List Int) (wrap64 (Int.tdiv (i : Int) 3)) = wrap64 (5 + wrap64 (Int.tdiv (i : Int) 3)) ∧ rd ([8, 9, 10] : List Int) (Int.tmod (i : Int) 3) = wrap64 (8 + Int.tmod (i : Int) 3)) ∧ (0 ≤ wrap64 (Int.tdiv (i : Int) 3) ∧ wrap64 (Int.tdiv (i : Int) 3) < 3 ∧ 0 ≤ Int.tmod (i : Int) 3 ∧ Int.tmod (i : Int) 3 < 3) := by
  decide +kernel
theorem build_start (m : Nat) (t0 t1 t2 t3 t4 t5 t6 t7 t8 : Int) : spec_BuildCircuit.l0 (m + 107) 0 t0 t1 t2 t3 t4 t5 t6 t7 t8 2 ([] : List S46) ([] : List Int) = spec_BuildCircuit.l1 (m + 100) 0 0 t0 t1 t2 t3 t4 t5 t6 t7 t8 2 lits6 ([] : List Int) ∧
    impl_BuildCircuit.l0 (m + 111) 0 t0 t1 t2 t3 t4 t5 t6 t7 t8 2 ([] : List S46) 0 0 0 0 0 0 = impl_BuildCircuit.l2 (m + 100) 0 0 t0 t1 t2 t3 t4 t5 t6 t7 t8 2 lits6 5 6 7 8 9 10 := ⟨by kernel_rfl, by kernel_rfl⟩
theorem build_loop (t0 t1 t2 t3 t4 t5 t6 t7 t8 : Int) : ∀ (d i : Nat) (x : Int) (gs : List S46), i + d = 9 → gs.length + 3 * d ≤ 60 → ∃ (y : Int) (hs : List S46), hs.length ≤ gs.length + 3 * d ∧
    (∀ k, d + 100 < k → spec_BuildCircuit.l1 k x (i : Int) t0 t1 t2 t3 t4 t5 t6 t7 t8 2 gs ([] : List Int) = some (2, hs, [y], true)) ∧ (∀ k, d + 100 < k → impl_BuildCircuit.l2 k x (i : Int) t0 t1 t2 t3 t4 t5 t6 t7 t8 2 gs 5 6 7 8 9 10 = some (2, hs, [y], true)) := by
  intro d
  induction d with
  | zero =>
    intro i x gs h hg
    refine ⟨x, gs, by omega, ?_, ?_⟩
    · intro k hk
      obtain ⟨k, rfl⟩ : ∃ m, k = m + 1 := ⟨k - 1, by omega⟩
      simp only [spec_BuildCircuit.l1]
      rw [if_neg (by omega)]
    · intro k hk
      obtain ⟨k, rfl⟩ : ∃ m, k = m + 1 := ⟨k - 1, by omega⟩
      simp only [impl_BuildCircuit.l2]
      rw [if_neg (by omega)]
  | succ d ih =>
    intro i x gs h hg
    obtain ⟨⟨b1, b2⟩, b3, b4, b5, b6⟩ := build_idx i (by omega)
    have hi1 : wrap64 ((i : Int) + 1) = ((i + 1 : Nat) : Int) := by rw [w64 _ (by omega) (by omega)]; omega
    by_cases c1 : rd ([t0, t1, t2, t3, t4, t5, t6, t7, t8] : List Int) (i : Int) = -1
    · obtain ⟨y, hs, hl, e1, e2⟩ := ih (i + 1) x gs (by omega) (by omega)
      refine ⟨y, hs, by omega, ?_, ?_⟩
      · intro k hk
        obtain ⟨k, rfl⟩ : ∃ m, k = m + 1 := ⟨k - 1, by omega⟩
        simp only [spec_BuildCircuit.l1]
        rw [if_pos (by omega), if_pos (by omega), if_pos c1, hi1]
        exact e1 k (by omega)
      · intro k hk
        obtain ⟨k, rfl⟩ : ∃ m, k = m + 1 := ⟨k - 1, by omega⟩
        simp only [impl_BuildCircuit.l2]
        rw [if_pos (by omega), if_pos (by omega), if_pos c1, hi1]
        exact e2 k (by omega)
    · have g1 : ∀ l : List S46, l.length ≤ 1000 → l.length < 1599289640401 := by intro l hl; omega
      have gl : ∀ (l : List S46) (g : S46), (l ++ [g]).length = l.length + 1 := by intro l g; rw [List.length_append, List.length_singleton]
      have go : ∀ (l : List S46) (u0 u1 u2 u3 u4 u5 u6 u7 u8 a b : Int), l.length ≤ 1000 → spec_l6Gate.f 2 l ([] : List Int) u0 u1 u2 u3 u4 u5 u6 u7 u8 a b = some (2, l ++ [(⟨⟨u0, u1, u2, u3, u4, u5, u6, u7, u8⟩, a, b⟩ : S46)], ([] : List Int), wrap64 (wrap64 (2 + 2) + ((l ++ [(⟨⟨u0, u1, u2, u3, u4, u5, u6, u7, u8⟩, a, b⟩ : S46)]).length : Int))) := by
        intro l u0 u1 u2 u3 u4 u5 u6 u7 u8 a b hl
        unfold spec_l6Gate.f
        rw [if_pos (g1 l hl), bsome]
      obtain ⟨y1, hy1⟩ : ∃ y1 : List S46, y1 = gs ++ [(⟨⟨-1, -1, -1, -1, 0, 0, -1, 0, 1⟩, wrap64 (5 + wrap64 (Int.tdiv (i : Int) 3)), wrap64 (8 + Int.tmod (i : Int) 3)⟩ : S46)] := ⟨_, rfl⟩
      have l1 : y1.length = gs.length + 1 := by rw [hy1, gl]
      by_cases c2 : rd ([t0, t1, t2, t3, t4, t5, t6, t7, t8] : List Int) (i : Int) = 0
      · obtain ⟨y2, hy2⟩ : ∃ y2 : List S46, y2 = y1 ++ [(⟨⟨-1, -1, -1, -1, 0, 0, -1, 0, 1⟩, wrap64 (wrap64 (2 + 2) + (y1.length : Int)), 1⟩ : S46)] := ⟨_, rfl⟩
        obtain ⟨y3, hy3⟩ : ∃ y3 : List S46, y3 = y2 ++ [(⟨⟨-1, 0, 1, 0, 0, 1, 1, 1, 1⟩, x, wrap64 (wrap64 (2 + 2) + (y2.length : Int))⟩ : S46)] := ⟨_, rfl⟩
        have l2 : y2.length = gs.length + 2 := by rw [hy2, gl, l1]
        have l3 : y3.length = gs.length + 3 := by rw [hy3, gl, l2]
        obtain ⟨y, hs, hl, e1, e2⟩ := ih (i + 1) (wrap64 (wrap64 (2 + 2) + (y3.length : Int))) y3 (by omega) (by omega)
        refine ⟨y, hs, by omega, ?_, ?_⟩
        · intro k hk
          obtain ⟨k, rfl⟩ : ∃ m, k = m + 1 := ⟨k - 1, by omega⟩
          obtain ⟨⟨ta, _⟩, ⟨tb, _⟩⟩ := two_tables k (by omega)
          have := e1 k (by omega)
          simp only [spec_BuildCircuit.l1]
          rw [if_pos (by omega), if_pos (by omega), if_neg c1, ta, bsome, go gs _ _ _ _ _ _ _ _ _ _ _ (by omega), bsome, ← hy1, if_pos c2, bsome, go y1 _ _ _ _ _ _ _ _ _ _ _ (by omega), bsome, ← hy2, tb, bsome, go y2 _ _ _ _ _ _ _ _ _ _ _ (by omega), bsome, ← hy3, hi1]
          exact this
        · intro k hk
          obtain ⟨k, rfl⟩ : ∃ m, k = m + 1 := ⟨k - 1, by omega⟩
          obtain ⟨⟨_, ta⟩, ⟨_, tb⟩⟩ := two_tables k (by omega)
          have := e2 k (by omega)
          simp only [impl_BuildCircuit.l2]
          rw [if_pos (by omega), if_pos (by omega), if_neg c1, ta, bsome, if_pos b3, if_pos b4, if_pos b5, if_pos b6, if_pos (g1 gs (by omega)), b1, b2, bsome, ← hy1, if_pos c2, bsome, if_pos (g1 y1 (by omega)), bsome, ← hy2, tb, bsome, if_pos (g1 y2 (by omega)), bsome, ← hy3, hi1]
          exact this
      · obtain ⟨y3, hy3⟩ : ∃ y3 : List S46, y3 = y1 ++ [(⟨⟨-1, 0, 1, 0, 0, 1, 1, 1, 1⟩, x, wrap64 (wrap64 (2 + 2) + (y1.length : Int))⟩ : S46)] := ⟨_, rfl⟩
        have l3 : y3.length = gs.length + 2 := by rw [hy3, gl, l1]
        obtain ⟨y, hs, hl, e1, e2⟩ := ih (i + 1) (wrap64 (wrap64 (2 + 2) + (y3.length : Int))) y3 (by omega) (by omega)
        refine ⟨y, hs, by omega, ?_, ?_⟩
        · intro k hk
          obtain ⟨k, rfl⟩ : ∃ m, k = m + 1 := ⟨k - 1, by omega⟩
          obtain ⟨⟨ta, _⟩, ⟨tb, _⟩⟩ := two_tables k (by omega)
          have := e1 k (by omega)
          simp only [spec_BuildCircuit.l1]
          rw [if_pos (by omega), if_pos (by omega), if_neg c1, ta, bsome, go gs _ _ _ _ _ _ _ _ _ _ _ (by omega), bsome, ← hy1, if_neg c2, tb, bsome, go y1 _ _ _ _ _ _ _ _ _ _ _ (by omega), bsome, ← hy3, hi1]
          exact this
        · intro k hk
          obtain ⟨k, rfl⟩ : ∃ m, k = m + 1 := ⟨k - 1, by omega⟩
          obtain ⟨⟨_, ta⟩, ⟨_, tb⟩⟩ := two_tables k (by omega)
          have := e2 k (by omega)
          simp only [impl_BuildCircuit.l2]
          rw [if_pos (by omega), if_pos (by omega), if_neg c1, ta, bsome, if_pos b3, if_pos b4, if_pos b5, if_pos b6, if_pos (g1 gs (by omega)), b1, b2, bsome, ← hy1, if_neg c2, tb, bsome, if_pos (g1 y1 (by omega)), bsome, ← hy3, hi1]
          exact this
theorem BuildCircuit_f (t0 t1 t2 t3 t4 t5 t6 t7 t8 : Int) : ∃ n gs os b, (∀ k, 400 ≤ k → spec_BuildCircuit.f k t0 t1 t2 t3 t4 t5 t6 t7 t8 = some (n, gs, os, b)) ∧ (∀ k, 400 ≤ k → impl_BuildCircuit.f k t0 t1 t2 t3 t4 t5 t6 t7 t8 = some (n, gs, os, b)) ∧ gs.length ≤ 60 ∧ os.length ≤ 60 := by
  cases h : isT9 [t0, t1, t2, t3, t4, t5, t6, t7, t8] with
  | false =>
    refine ⟨0, [], [], false, ?_, ?_, by simp, by simp⟩
    · intro k hk
      unfold spec_BuildCircuit.f spec_IsTable.f
      rw [bsome, if_neg (by rw [h]; decide)]
    · intro k hk
      unfold impl_BuildCircuit.f impl_IsTable.f
      rw [bsome, if_neg (by rw [h]; decide)]
  | true =>
    obtain ⟨y, hs, hl, e1, e2⟩ := build_loop t0 t1 t2 t3 t4 t5 t6 t7 t8 9 0 0 lits6 rfl (by decide)
    have h6 : lits6.length = 6 := rfl
    refine ⟨2, hs, [y], true, ?_, ?_, by omega, by simp⟩
    · intro k hk
      obtain ⟨m, rfl⟩ : ∃ m, k = m + 107 := ⟨k - 107, by omega⟩
      unfold spec_BuildCircuit.f spec_IsTable.f
      rw [bsome, if_pos h, (build_start m t0 t1 t2 t3 t4 t5 t6 t7 t8).1]
      exact e1 _ (by omega)
    · intro k hk
      obtain ⟨m, rfl⟩ : ∃ m, k = m + 111 := ⟨k - 111, by omega⟩
      unfold impl_BuildCircuit.f impl_IsTable.f
      rw [bsome, if_pos h, (build_start m t0 t1 t2 t3 t4 t5 t6 t7 t8).2]
      exact e2 _ (by omega)
end FnExactBuildCircuitParts
open FnExactBuildCircuitParts
attribute [local congr] bind_left

theorem FnExactBuildCircuit : laws_FnExactBuildCircuit.Pure := by
  intro t0 t1 t2 t3 t4 t5 t6 t7 t8
  intros
  obtain ⟨K, hK⟩ : ∃ K, 100000000 ≤ K := ⟨_, Nat.le_refl _⟩
  refine ⟨K + 4, ?_⟩
  obtain ⟨n, gs, os, b, s1, s2, hg, ho⟩ := BuildCircuit_f t0 t1 t2 t3 t4 t5 t6 t7 t8
  have ec := fun k (hk : 4000001 ≤ k) => laws_eqCircuit_same k n gs os (by omega) (by omega) (by omega)
  have mc := fun k (hk : 4000001 ≤ k) => laws_markCircuit_f k n gs os 1 (by omega) (by omega) (by omega) (by omega) (by omega)
  have hc := fun k (hk : 4000001 ≤ k) => laws_heldCircuit_marks k n 1 gs.length os.length (by omega) (by omega) (by omega) (by omega) (by omega)
  have tt : ∀ a0 a1 a2 a3 a4 a5 a6 a7 a8 : Int, laws_toTable.f a0 a1 a2 a3 a4 a5 a6 a7 a8 = some (a0, a1, a2, a3, a4, a5, a6, a7, a8) := fun _ _ _ _ _ _ _ _ _ => rfl
  unfold laws_FnExactBuildCircuit.f
  simp (disch := omega) only [↓if_pos, ↓if_neg, ↓reduceIte, bsome, decide_true, bne_self_eq_false, Bool.false_eq_true, tt, s1, s2, ec, mc, hc, laws_FnExactBuildCircuit.j0, laws_FnExactBuildCircuit.j1]

end Go.Proofs.Ytaopbkbjfmfcdaa.Pure
