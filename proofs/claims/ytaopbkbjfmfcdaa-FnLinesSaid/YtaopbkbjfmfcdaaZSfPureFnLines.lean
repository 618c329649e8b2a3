/- For all codes the lines of the circuit that is drawn are what its gates make of the lines before them; no condition. -/
import Derived.Test.YtaopbkbjfmfcdaaZSfPx8
import Derived.Test.YtaopbkbjfmfcdaaZSfGlue
namespace Go.Proofs.Ytaopbkbjfmfcdaa.Pure
open Go.RowKit Go.Proofs.Ytaopbkbjfmfcdaa.Tern Go.Proofs.Ytaopbkbjfmfcdaa.P Go.Proofs.YtaopbkbjfmfcdaaW.PrintWords Go.Proofs.YtaopbkbjfmfcdaaW.PrintLast
set_option linter.unusedVariables false
set_option linter.unusedSimpArgs false

namespace FnLinesParts
theorem bits_and255 (x : Int) : 0 ≤ Go.bits .and .i64 x 255 ∧ Go.bits .and .i64 x 255 ≤ 255 := by
  have h : (BitVec.ofInt 64 x &&& BitVec.ofInt 64 255).toNat ≤ 255 := by
    rw [BitVec.toNat_and]
    exact Nat.le_trans Nat.and_le_right (by decide)
  have e : Go.bits .and .i64 x 255 = IntKind.i64.wrap ((BitVec.ofInt 64 x &&& BitVec.ofInt 64 255).toNat : Int) := rfl
  rw [e, IntKind.wrap_i64]
  omega
theorem spec_l01Byte_f (b : List Int) (i h : Int) (hb : b.length ≤ 2000000) (hi : 0 ≤ i) : ∃ r i' h', spec_l01Byte.f b i h = some (r, i', h') ∧ (0 ≤ r ∧ r ≤ 255) ∧ 0 ≤ i' := by
  unfold spec_l01Byte.f
  by_cases c : i < (b.length : Int)
  · rw [if_pos c, if_pos hi, w64 (i + 1) (by omega) (by omega)]
    exact ⟨_, _, _, rfl, bits_and255 _, by omega⟩
  · rw [if_neg c]
    exact ⟨_, _, _, rfl, bits_and255 _, hi⟩
theorem spec_l01Below_f (b : List Int) (i h n : Int) (hb : b.length ≤ 2000000) (hi : 0 ≤ i) (h1 : 1 ≤ n) (h2 : n ≤ 256) : ∃ r i' h', spec_l01Below.f b i h n = some (r, i', h') ∧ (0 ≤ r ∧ r < n) ∧ 0 ≤ i' := by
  obtain ⟨r, i', h', e, hr, hi'⟩ := spec_l01Byte_f b i h hb hi
  unfold spec_l01Below.f
  rw [if_neg (by omega), if_pos h2, e, bsome, if_neg (by omega)]
  refine ⟨_, _, _, rfl, ?_, hi'⟩
  show 0 ≤ Int.tmod r n ∧ Int.tmod r n < n
  exact (tmod_range (n := r) (by omega)).1 hr.1
theorem spec_l01New_f (k : Nat) (l : List Int) (hk : 2000002 ≤ k) (hl : l.length ≤ 2000000) : ∃ h, spec_l01New.f k l = some (l, 0, h) := by
  have key : ∀ (d k i : Nat) (h : Int), i + d = l.length → d < k → ∃ h', spec_l01New.l0 k l h (i : Int) = some (l, 0, h') := by
    intro d
    induction d with
    | zero =>
      intro k i h e hk
      obtain ⟨k, rfl⟩ : ∃ m, k = m + 1 := ⟨k - 1, by omega⟩
      rw [spec_l01New.l0, if_neg (by omega)]
      exact ⟨_, rfl⟩
    | succ d ih =>
      intro k i h e hk
      obtain ⟨k, rfl⟩ : ∃ m, k = m + 1 := ⟨k - 1, by omega⟩
      rw [spec_l01New.l0, if_pos (by omega)]
      by_cases c : (i : Int) < 4000
      · rw [if_pos c, if_pos (by omega), w64 ((i : Int) + 1) (by omega) (by omega), show (i : Int) + 1 = ((i + 1 : Nat) : Int) from by omega]
        exact ih k (i + 1) _ (by omega) (by omega)
      · rw [if_neg c]
        exact ⟨_, rfl⟩
  unfold spec_l01New.f
  exact key l.length k 0 _ (by omega) (by omega)
theorem laws_at_f (l : List Int) (i : Int) (hl : l.length ≤ 2000000) (hw : ∀ x ∈ l, (Lit.int .u8 x).wf = true) (h0 : 0 ≤ i) (h1 : i ≤ 1000) : ∃ v, laws_at.f l i = some v ∧ 0 ≤ v ∧ v ≤ 255 := by
  unfold laws_at.f
  by_cases c : i < (l.length : Int)
  · have := wf8 (hw _ (rd_mem l i.toNat (by omega)))
    rw [show ((i.toNat : Nat) : Int) = i from by omega] at this
    rw [if_pos c, if_pos h0, w64 _ (by omega) (by omega)]
    exact ⟨_, rfl, this⟩
  · rw [if_neg c, w64 (i * 37) (by omega) (by omega), w64 ((l.length : Int) * 11) (by omega) (by omega), w64 _ (by omega) (by omega)]
    have := (tmod_range (n := i * 37 + (l.length : Int) * 11) (m := 256) (by omega)).1 (by omega)
    exact ⟨_, rfl, by omega, by omega⟩
theorem rd_L2_two (a b : List Int) : rd_L6 [a, b] 0 = a ∧ rd_L6 [a, b] 1 = b := ⟨rfl, rfl⟩
theorem slices_Concat_f2 (k : Nat) (a b : List Int) (hk : 100 ≤ k) (ha : a.length ≤ 2000000) (hb : b.length ≤ 2000000) : slices_Concat_int_int.f k [a, b] = some (a ++ b) := by
  obtain ⟨k, rfl⟩ : ∃ m, k = m + 6 := ⟨k - 6, by omega⟩
  unfold slices_Concat_int_int.f
  have l2 : (([a, b] : List (List Int)).length : Int) = 2 := rfl
  rw [l2, slices_Concat_int_int.l0, l2, if_pos (by omega), if_pos (by omega), if_pos (by omega), (rd_L2_two a b).1, w64 (0 + (a.length : Int)) (by omega) (by omega), if_neg (by omega), w64 (0 + 1) (by omega) (by omega), Int.zero_add, Int.zero_add]
  rw [slices_Concat_int_int.l0, l2, if_pos (by omega), if_pos (by omega), if_pos (by omega), (rd_L2_two a b).2, w64 ((a.length : Int) + (b.length : Int)) (by omega) (by omega), if_neg (by omega), w64 (1 + 1) (by omega) (by omega)]
  rw [slices_Concat_int_int.l0, if_neg (by omega)]
  unfold slices_Grow_int_int.f
  rw [if_pos (by omega), if_pos (by omega), if_pos List.length_nil, bsome, l2]
  rw [slices_Concat_int_int.l1, l2, if_pos (by omega), if_pos (by omega), if_pos (by omega), (rd_L2_two a b).1, if_pos (by rw [List.length_nil]; omega), w64 (0 + 1) (by omega) (by omega), List.nil_append, Int.zero_add]
  rw [slices_Concat_int_int.l1, l2, if_pos (by omega), if_pos (by omega), if_pos (by omega), (rd_L2_two a b).2, if_pos (by omega), w64 (1 + 1) (by omega) (by omega)]
  rw [slices_Concat_int_int.l1, if_neg (by omega)]
theorem spec_l01Once_f (b : List Int) (i h n : Int) (hb : b.length ≤ 2000000) (hi : 0 ≤ i) (h1 : 1 ≤ n) (h2 : n ≤ 256) : ∃ r i' h', spec_l01Once.f b i h n = some (r, i', h') ∧ 0 ≤ i' := by
  obtain ⟨r, i', h', e, _, hi'⟩ := spec_l01Below_f b i h n hb hi h1 h2
  exact ⟨_, i', h', by unfold spec_l01Once.f; rw [e, bsome], hi'⟩
theorem drop_rdG (l : List S46) (i : Nat) (h : i < l.length) : l.drop i = rd_T46 l (i : Int) :: l.drop (i + 1) := by
  unfold rd_T46
  rw [Int.toNat_natCast, List.drop_eq_getElem_cons h, List.getD_eq_getElem?_getD, List.getElem?_eq_getElem h]; rfl
/-- A gate over so many lines; gates that follow each other; a circuit. -/
def okG (n : Int) (g : S46) : Bool := isT9 [g.f0.f0, g.f0.f1, g.f0.f2, g.f0.f3, g.f0.f4, g.f0.f5, g.f0.f6, g.f0.f7, g.f0.f8] && (decide (0 ≤ g.f1 ∧ g.f1 < n) && decide (0 ≤ g.f2 ∧ g.f2 < n))
def okGs : Int → List S46 → Bool
  | _, [] => true
  | n, g :: gs => okG n g && okGs (n + 1) gs
def okO (n : Int) : List Int → Bool
  | [] => true
  | x :: xs => decide (0 ≤ x ∧ x < n) && okO n xs
def isCirc (a : Int) (gs : List S46) (os : List Int) : Bool := decide (0 ≤ a ∧ a ≤ 8) && (decide (gs.length ≤ 60) && (decide (os.length ≤ 60) && (okGs (3 + a) gs && okO (3 + a + gs.length) os)))
theorem isCirc_parts {a : Int} {gs : List S46} {os : List Int} (h : isCirc a gs os = true) : 0 ≤ a ∧ a ≤ 8 ∧ gs.length ≤ 60 ∧ os.length ≤ 60 ∧ okGs (3 + a) gs = true ∧ okO (3 + a + gs.length) os = true := by
  unfold isCirc at h
  simp only [Bool.and_eq_true, decide_eq_true_eq] at h
  exact ⟨h.1.1, h.1.2, h.2.1, h.2.2.1, h.2.2.2.1, h.2.2.2.2⟩
theorem contains_f (os : List Int) (n : Int) : slices_ContainsFunc_int_int.f os n = some (!okO n os) := by
  unfold slices_ContainsFunc_int_int.f outB
  congr 1
  induction os with
  | nil => simp [okO]
  | cons x xs ih =>
    rw [okO]
    by_cases c : 0 ≤ x ∧ x < n
    · rw [decide_eq_true c, Bool.true_and, ← ih]
      congr 1
      apply propext
      constructor
      · rintro ⟨y, hy, h⟩
        rcases List.mem_cons.1 hy with rfl | hy
        · omega
        · exact ⟨y, hy, h⟩
      · rintro ⟨y, hy, h⟩
        exact ⟨y, List.mem_cons_of_mem _ hy, h⟩
    · rw [decide_eq_false c, Bool.false_and]
      exact decide_eq_true ⟨x, List.mem_cons_self, by omega⟩
theorem impl_IsCircuit_l0 (n : Int) (gs : List S46) (os : List Int) (a : Int) (h0 : 0 ≤ n) (h1 : n ≤ 11) (hg : gs.length ≤ 60) : ∀ (d k i : Nat), i + d = gs.length → d < k →
    impl_IsCircuit.l0 k gs (gs.length : Int) (i : Int) a gs os (n + i) = some (okGs (n + i) (gs.drop i) && okO (n + gs.length) os) := by
  intro d
  induction d with
  | zero =>
    intro k i h hk
    obtain ⟨k, rfl⟩ : ∃ m, k = m + 1 := ⟨k - 1, by omega⟩
    simp only [impl_IsCircuit.l0]
    rw [if_neg (by omega), List.drop_eq_nil_of_le (by omega), contains_f, bsome, show i = gs.length by omega, okGs, Bool.true_and, Bool.not_not]
  | succ d ih =>
    intro k i h hk
    obtain ⟨k, rfl⟩ : ∃ m, k = m + 1 := ⟨k - 1, by omega⟩
    simp only [impl_IsCircuit.l0]
    rw [if_pos (by omega), if_pos (by omega), if_pos (by omega), drop_rdG gs i (by omega), okGs]
    generalize rd_T46 gs (i : Int) = g
    unfold impl_IsTable.f okG
    rw [bsome, w64 (n + i + 1) (by omega) (by omega), w64 ((i : Int) + 1) (by omega) (by omega)]
    have ih' := ih k (i + 1) (by omega) (by omega)
    rw [show n + ((i + 1 : Nat) : Int) = n + i + 1 by omega, show ((i + 1 : Nat) : Int) = (i : Int) + 1 from by omega] at ih'
    rw [ih']
    cases e : isT9 [g.f0.f0, g.f0.f1, g.f0.f2, g.f0.f3, g.f0.f4, g.f0.f5, g.f0.f6, g.f0.f7, g.f0.f8] with
    | false => rw [if_neg (by decide)]; rfl
    | true =>
      rw [if_pos rfl]
      by_cases c1 : 0 ≤ g.f1 ∧ g.f1 < n + i
      · rw [if_neg (by omega), if_neg (by omega), decide_eq_true c1]
        by_cases c2 : 0 ≤ g.f2 ∧ g.f2 < n + i
        · rw [if_neg (by omega), if_neg (by omega), decide_eq_true c2]
          rfl
        · rw [decide_eq_false c2]
          by_cases c3 : g.f2 < 0
          · rw [if_pos c3]; rfl
          · rw [if_neg c3, if_pos (by omega)]; rfl
      · rw [decide_eq_false c1]
        by_cases c3 : g.f1 < 0
        · rw [if_pos c3]; rfl
        · rw [if_neg c3, if_pos (by omega)]; rfl
theorem impl_IsCircuit_f (k : Nat) (a : Int) (gs : List S46) (os : List Int) (hk : 2000001 ≤ k) : impl_IsCircuit.f k a gs os = some (isCirc a gs os) := by
  unfold impl_IsCircuit.f isCirc
  obtain ⟨k, rfl⟩ : ∃ m, k = m + 1 := ⟨k - 1, by omega⟩
  by_cases c : 0 ≤ a ∧ a ≤ 8
  · rw [if_neg (by omega), if_neg (by omega), decide_eq_true c]
    by_cases c1 : gs.length ≤ 60
    · rw [if_neg (by omega), decide_eq_true c1]
      by_cases c2 : os.length ≤ 60
      · rw [decide_eq_false (show ¬ ((os.length : Int) > 60) by omega), decide_eq_true c2]
        simp only [impl_IsCircuit.j0]
        rw [if_neg (by decide), w64 (3 + a) (by omega) (by omega)]
        have := impl_IsCircuit_l0 (3 + a) gs os a (by omega) (by omega) c1 gs.length k 0 (by omega) (by omega)
        simp only [List.drop_zero, Int.natCast_zero, Int.add_zero] at this
        rw [this]; rfl
      · rw [decide_eq_true (show ((os.length : Int) > 60) by omega), decide_eq_false c2]
        simp only [impl_IsCircuit.j0]
        rfl
    · rw [if_pos (by omega), decide_eq_false c1]
      simp only [impl_IsCircuit.j0]
      rfl
  · rw [decide_eq_false c]
    simp only [impl_IsCircuit.j0]
    by_cases d : a < 0
    · rw [if_pos d]; rfl
    · rw [if_neg d, if_pos (by omega)]; rfl
theorem okG_parts {n : Int} {g : S46} (h : okG n g = true) : isT9 [g.f0.f0, g.f0.f1, g.f0.f2, g.f0.f3, g.f0.f4, g.f0.f5, g.f0.f6, g.f0.f7, g.f0.f8] = true ∧ 0 ≤ g.f1 ∧ g.f1 < n ∧ 0 ≤ g.f2 ∧ g.f2 < n := by
  unfold okG at h
  simp only [Bool.and_eq_true, decide_eq_true_eq] at h
  exact ⟨h.1, h.2.1.1, h.2.1.2, h.2.2.1, h.2.2.2⟩
theorem rd_memI (l : List Int) (i : Int) (h0 : 0 ≤ i) (h1 : i < (l.length : Int)) : rd l i ∈ l := by
  obtain ⟨m, rfl⟩ := Int.eq_ofNat_of_zero_le h0
  exact rd_mem l m (by omega)
theorem trB_iff (x : Int) : trB x = true ↔ -1 ≤ x ∧ x ≤ 1 := by
  unfold trB
  simp only [Bool.and_eq_true, decide_eq_true_eq]
theorem isT9_mem {l : List Int} (h : isT9 l = true) {x : Int} (hx : x ∈ l) : -1 ≤ x ∧ x ≤ 1 := (trB_iff x).1 (List.all_eq_true.1 h x hx)
theorem isT9_of {l : List Int} (h : ∀ x, x ∈ l → -1 ≤ x ∧ x ≤ 1) : isT9 l = true := List.all_eq_true.2 fun x hx => (trB_iff x).2 (h x hx)
/-- A gate's trit; the lines that gates make, one behind the other. -/
def cells9 (g : S46) : List Int := [g.f0.f0, g.f0.f1, g.f0.f2, g.f0.f3, g.f0.f4, g.f0.f5, g.f0.f6, g.f0.f7, g.f0.f8]
def tab9 (g : S46) (a b : Int) : Int := rd (cells9 g) (3 * (a + 1) + b + 1)
def linesL (xs : List Int) : List S46 → List Int
  | [] => xs
  | g :: gs => linesL (xs ++ [tab9 g (rd xs g.f1) (rd xs g.f2)]) gs
theorem tab9_in (g : S46) (a b : Int) (h : isT9 [g.f0.f0, g.f0.f1, g.f0.f2, g.f0.f3, g.f0.f4, g.f0.f5, g.f0.f6, g.f0.f7, g.f0.f8] = true) (ha : -1 ≤ a ∧ a ≤ 1) (hb : -1 ≤ b ∧ b ≤ 1) : -1 ≤ tab9 g a b ∧ tab9 g a b ≤ 1 :=
  isT9_mem (l := cells9 g) h (rd_memI (cells9 g) _ (by omega) (by show _ < (9 : Int); omega))
theorem linesL_len (gs : List S46) : ∀ xs : List Int, (linesL xs gs).length = xs.length + gs.length := by
  induction gs with
  | nil => intro xs; simp [linesL]
  | cons g gs ih => intro xs; rw [linesL, ih]; simp; omega
theorem impl_trits_g (k : Nat) (l : List Int) (hk : 2000001 ≤ k) (hl : l.length ≤ 2000000) : impl_trits.f k l = some (isT9 l) := by
  unfold impl_trits.f
  have := impl_trits_go l hl l.length k 0 (by omega) (by omega)
  simpa using this
theorem impl_LookUp_g (k : Nat) (g : S46) (a b : Int) (hk : 2000001 ≤ k) (h : isT9 [g.f0.f0, g.f0.f1, g.f0.f2, g.f0.f3, g.f0.f4, g.f0.f5, g.f0.f6, g.f0.f7, g.f0.f8] = true) (ha : -1 ≤ a ∧ a ≤ 1) (hb : -1 ≤ b ∧ b ≤ 1) :
    impl_LookUp.f k g.f0.f0 g.f0.f1 g.f0.f2 g.f0.f3 g.f0.f4 g.f0.f5 g.f0.f6 g.f0.f7 g.f0.f8 a b = some (tab9 g a b) := by
  unfold impl_LookUp.f impl_IsTable.f
  rw [bsome, if_pos h, impl_trits_g k [a, b] hk (by simp), bsome, if_pos (isT9_of (by intro x hx; rcases List.mem_cons.1 hx with rfl | hx; exact ha; rw [List.mem_singleton.1 hx]; exact hb)), w64 (a + 1) (by omega) (by omega), w64 (3 * (a + 1)) (by omega) (by omega), w64 (3 * (a + 1) + b) (by omega) (by omega), w64 (3 * (a + 1) + b + 1) (by omega) (by omega), if_pos (by omega), if_pos (by omega)]
  rfl
theorem impl_lines_l0 (n : Int) (gs : List S46) (h0 : 0 ≤ n) (h1 : n ≤ 11) (hg : gs.length ≤ 60) : ∀ (d k i : Nat) (xs : List Int), i + d = gs.length → d + 2000001 < k → (xs.length : Int) = n + i → (∀ x, x ∈ xs → -1 ≤ x ∧ x ≤ 1) → okGs (n + i) (gs.drop i) = true →
    impl_lines.l0 k xs gs (gs.length : Int) (i : Int) = some (linesL xs (gs.drop i)) := by
  intro d
  induction d with
  | zero =>
    intro k i xs h hk hl hd ho
    obtain ⟨k, rfl⟩ : ∃ m, k = m + 1 := ⟨k - 1, by omega⟩
    simp only [impl_lines.l0]
    rw [if_neg (by omega), List.drop_eq_nil_of_le (by omega)]; rfl
  | succ d ih =>
    intro k i xs h hk hl hd ho
    obtain ⟨k, rfl⟩ : ∃ m, k = m + 1 := ⟨k - 1, by omega⟩
    simp only [impl_lines.l0]
    rw [drop_rdG gs i (by omega), okGs] at ho
    rw [if_pos (by omega), if_pos (by omega), if_pos (by omega), drop_rdG gs i (by omega), linesL]
    generalize rd_T46 gs (i : Int) = g at *
    simp only [Bool.and_eq_true] at ho
    obtain ⟨t9, a0, a1, b0, b1⟩ := okG_parts ho.1
    have m1 := hd _ (rd_memI xs g.f1 a0 (by omega))
    have m2 := hd _ (rd_memI xs g.f2 b0 (by omega))
    have m3 := tab9_in g _ _ t9 m1 m2
    rw [if_pos a0, if_pos (by omega), if_pos b0, if_pos (by omega), impl_LookUp_g k g _ _ (by omega) t9 m1 m2, bsome, if_pos (by omega), w64 ((i : Int) + 1) (by omega) (by omega)]
    generalize tab9 g (rd xs g.f1) (rd xs g.f2) = v at *
    have e := ih k (i + 1) (xs ++ [v]) (by omega) (by omega) (by simp; omega) (by
      intro x hx
      rcases List.mem_append.1 hx with hx | hx
      · exact hd x hx
      · rw [List.mem_singleton.1 hx]; exact m3) (by rw [show n + ((i + 1 : Nat) : Int) = n + i + 1 by omega]; exact ho.2)
    rw [show ((i + 1 : Nat) : Int) = (i : Int) + 1 from by omega] at e
    exact e
/-- The lines of a circuit, and whether it has such inputs. -/
def linesOf (a : Int) (gs : List S46) (os xs : List Int) : List Int × Bool := if isCirc a gs os = true ∧ (xs.length : Int) = a ∧ isT9 xs = true then (linesL ([-1, 0, 1] ++ xs) gs, true) else ([], false)
theorem lines_start {xs : List Int} (h : isT9 xs = true) : ∀ x, x ∈ [-1, 0, 1] ++ xs → -1 ≤ x ∧ x ≤ 1 := by
  intro x hx
  rcases List.mem_append.1 hx with hx | hx
  · simp only [List.mem_cons, List.not_mem_nil, or_false] at hx
    omega
  · exact isT9_mem h hx
theorem impl_LinesOf_f (k : Nat) (a : Int) (gs : List S46) (os xs : List Int) (hk : 4000001 ≤ k) (hx : xs.length ≤ 2000000) : impl_LinesOf.f k a gs os xs = some (linesOf a gs os xs) := by
  unfold impl_LinesOf.f linesOf
  rw [impl_IsCircuit_f k a gs os (by omega), bsome]
  cases h : isCirc a gs os with
  | false => rw [if_neg (by decide), if_neg (fun h => by cases h.1)]
  | true =>
    rw [if_pos rfl]
    by_cases c : (xs.length : Int) = a
    · rw [if_pos c, impl_trits_g k xs (by omega) hx, bsome]
      cases t : isT9 xs with
      | false => rw [if_neg (by decide), if_neg (fun h => by cases h.2.2)]
      | true =>
        obtain ⟨a0, a1, g1, _, hg, _⟩ := isCirc_parts h
        rw [if_pos rfl, if_pos ⟨rfl, c, rfl⟩]
        unfold impl_lines.f
        rw [slices_Concat_f2 k [-1, 0, 1] xs (by omega) (by simp) hx, bsome]
        have e := impl_lines_l0 (3 + a) gs (by omega) (by omega) g1 gs.length k 0 ([-1, 0, 1] ++ xs) (by omega) (by omega) (by simp only [List.length_append, List.length_cons, List.length_nil]; omega) (lines_start t) (by simpa using hg)
        simp only [List.drop_zero, Int.natCast_zero] at e
        rw [e, bsome]
    · rw [if_neg c, if_neg (fun h => c h.2.1)]
/-- What a circuit gives for inputs. -/
def runOf (a : Int) (gs : List S46) (os xs : List Int) : List Int × Bool := if (linesOf a gs os xs).2 = true then (os.map fun x => rd (linesOf a gs os xs).1 x, true) else ([], false)
theorem okO_drop (n : Int) : ∀ (os : List Int) (i : Nat), okO n os = true → okO n (os.drop i) = true
  | os, 0, h => by simpa using h
  | [], i + 1, h => by simpa using h
  | x :: os, i + 1, h => by
    rw [okO, Bool.and_eq_true] at h
    exact okO_drop n os i h.2
theorem impl_RunCircuit_l0 (ls os : List Int) (ho : os.length ≤ 60) (hok : okO ls.length os = true) : ∀ (d k i : Nat) (acc : List Int), i + d = os.length → d < k → acc.length = i →
    impl_RunCircuit.l0 k ls acc os (os.length : Int) (i : Int) = some (acc ++ (os.drop i).map fun x => rd ls x, true) := by
  intro d
  induction d with
  | zero =>
    intro k i acc h hk ha
    obtain ⟨k, rfl⟩ : ∃ m, k = m + 1 := ⟨k - 1, by omega⟩
    simp only [impl_RunCircuit.l0]
    rw [if_neg (by omega), List.drop_eq_nil_of_le (by omega)]; simp
  | succ d ih =>
    intro k i acc h hk ha
    obtain ⟨k, rfl⟩ : ∃ m, k = m + 1 := ⟨k - 1, by omega⟩
    simp only [impl_RunCircuit.l0]
    have hd := okO_drop _ _ i hok
    rw [drop_rd os i (by omega), okO, Bool.and_eq_true, decide_eq_true_eq] at hd
    rw [if_pos (by omega), if_pos (by omega), if_pos (by omega), if_pos hd.1.1, if_pos hd.1.2, if_pos (by omega), w64 _ (by omega) (by omega), drop_rd os i (by omega), show (i : Int) + 1 = ((i + 1 : Nat) : Int) from by omega, ih k (i + 1) _ (by omega) (by omega) (by simp; omega)]
    simp
theorem linesOf_ok {a : Int} {gs : List S46} {os xs : List Int} (h : (linesOf a gs os xs).2 = true) : os.length ≤ 60 ∧ okO (linesOf a gs os xs).1.length os = true := by
  unfold linesOf at h ⊢
  split at h
  · rename_i h2
    rw [if_pos h2]
    obtain ⟨a0, _, _, o1, _, ho⟩ := isCirc_parts h2.1
    refine ⟨o1, ?_⟩
    rw [linesL_len]
    have e : ((([-1, 0, 1] ++ xs).length + gs.length : Nat) : Int) = 3 + a + gs.length := by
      simp only [List.length_append, List.length_cons, List.length_nil]; have := h2.2.1; omega
    rw [e]; exact ho
  · cases h
theorem impl_RunCircuit_f (k : Nat) (a : Int) (gs : List S46) (os xs : List Int) (hk : 4000001 ≤ k) (hx : xs.length ≤ 2000000) : impl_RunCircuit.f k a gs os xs = some (runOf a gs os xs) := by
  unfold impl_RunCircuit.f runOf
  rw [impl_LinesOf_f k a gs os xs hk hx, bsome]
  cases h : (linesOf a gs os xs).2 with
  | false => rw [if_neg (by decide), if_neg (by decide)]
  | true =>
    obtain ⟨o1, ho⟩ := linesOf_ok h
    rw [if_pos rfl, if_pos rfl]
    have := impl_RunCircuit_l0 (linesOf a gs os xs).1 os o1 ho os.length k 0 [] (by omega) (by omega) rfl
    simpa using this
/-- More rounds tell the same. -/
theorem up_of {α : Type} (F : Nat → Option α) (hm : ∀ k, LeO (F k) (F (k + 1))) (r : α) (n : Nat) (h : F n = some r) : ∀ k, n ≤ k → F k = some r := by
  intro k hk
  induction k with
  | zero => have : n = 0 := by omega
            subst this; exact h
  | succ k ih =>
    by_cases c : n = k + 1
    · rw [← c]; exact h
    · exact hm k r (ih (by omega))
def seven : List ByteArray := [(⟨#[109, 105, 110]⟩ : ByteArray), (⟨#[109, 97, 120]⟩ : ByteArray), (⟨#[97, 103, 114, 101, 101]⟩ : ByteArray), (⟨#[97, 110, 121]⟩ : ByteArray), (⟨#[116, 105, 109, 101, 115]⟩ : ByteArray), (⟨#[115, 117, 109]⟩ : ByteArray), (⟨#[99, 97, 114, 114, 121]⟩ : ByteArray)]
theorem TableOf_seven (s : ByteArray) (hs : s ∈ seven) (k : Nat) (hk : 100 ≤ k) : ∃ t, spec_TableOf.f k s = some t := by
  have key : ∃ t, spec_TableOf.f 100 s = some t := by
    refine Option.isSome_iff_exists.1 ?_
    unfold seven at hs
    simp only [List.mem_cons, List.not_mem_nil, or_false] at hs
    rcases hs with rfl | rfl | rfl | rfl | rfl | rfl | rfl <;> kernel_rfl
  obtain ⟨t, e⟩ := key
  exact ⟨t, up_of (fun k => spec_TableOf.f k s) (spec_TableOf.mono s) t 100 e k hk⟩
theorem TableOf_any (k : Nat) (hk : 100 ≤ k) : spec_TableOf.f k (⟨#[97, 110, 121]⟩ : ByteArray) = some (-1, -1, 0, -1, 0, 1, 0, 1, 1) :=
  up_of (fun k => spec_TableOf.f k (⟨#[97, 110, 121]⟩ : ByteArray)) (spec_TableOf.mono _) _ 100 (by kernel_rfl) k hk
theorem spec_l01Int_f (b l : List Int) (i h : Int) (hb : b.length ≤ 2000000) (hi : 0 ≤ i) (h1 : 1 ≤ l.length) (h2 : l.length ≤ 256) : ∃ r i' h', spec_l01Int.f b i h l = some (r, i', h') ∧ 0 ≤ i' := by
  obtain ⟨r, i', h', e, hr, hi'⟩ := spec_l01Below_f b i h (l.length : Int) hb hi (by omega) (by omega)
  exact ⟨rd l r, i', h', by unfold spec_l01Int.f; rw [e, bsome, if_pos hr.1, if_pos hr.2], hi'⟩
theorem rdOf_mem {α : Type} (z : α) (l : List α) (i : Int) (h0 : 0 ≤ i) (h1 : i < (l.length : Int)) : rdOf z l i ∈ l := by
  obtain ⟨m, rfl⟩ := Int.eq_ofNat_of_zero_le h0
  have hm : m < l.length := by omega
  have e : rdOf z l (m : Int) = l[m] := by
    simp [rdOf, List.getD_eq_getElem?_getD, List.getElem?_eq_getElem hm]
  exact e ▸ List.getElem_mem hm
theorem spec_l01Pick_f (b : List Int) (l : List ByteArray) (i h : Int) (hb : b.length ≤ 2000000) (hi : 0 ≤ i) (h1 : 1 ≤ l.length) (h2 : l.length ≤ 256) : ∃ r i' h', spec_l01Pick.f b i h l = some (r, i', h') ∧ r ∈ l ∧ 0 ≤ i' := by
  obtain ⟨r, i', h', e, hr, hi'⟩ := spec_l01Below_f b i h (l.length : Int) hb hi (by omega) (by omega)
  exact ⟨rdOf ByteArray.empty l r, i', h', by unfold spec_l01Pick.f; rw [e, bsome, if_pos hr.1, if_pos hr.2], rdOf_mem _ _ _ hr.1 hr.2, hi'⟩
theorem l1Table_j1 (b : List Int) (hb : b.length ≤ 2000000) (k : Nat) (i h : Int) (hi : 0 ≤ i) (t0 t1 t2 t3 t4 t5 t6 t7 t8 : Int) : ∃ r, spec_l1Table.j1 (k + 1) b i h t0 t1 t2 t3 t4 t5 t6 t7 t8 = some r ∧ 0 ≤ r.2.2.2.2.2.2.2.2.2.1 := by
  obtain ⟨o, i1, h1, e1, hi1⟩ := spec_l01Once_f b i h 15 hb hi (by omega) (by omega)
  simp only [spec_l1Table.j1]
  rw [e1, bsome]
  cases o with
  | true =>
    obtain ⟨q, i2, h2, e2, hq, hi2⟩ := spec_l01Below_f b i1 h1 9 hb hi1 (by omega) (by omega)
    obtain ⟨z, i3, h3, e3, hi3⟩ := spec_l01Int_f b [(-2), 2, (-9223372036854775808)] i2 h2 hb hi2 (by decide) (by decide)
    rw [if_pos rfl, e2, bsome, e3, bsome, if_pos hq.1, if_pos hq.2]
    exact ⟨_, rfl, hi3⟩
  | false => rw [if_neg (by simp)]; exact ⟨_, rfl, hi1⟩
theorem l1Table_l0 (b : List Int) (hb : b.length ≤ 2000000) : ∀ (d k i : Nat) (c h t0 t1 t2 t3 t4 t5 t6 t7 t8 : Int), i + d = 9 → d + 1 < k → 0 ≤ c →
    ∃ r, spec_l1Table.l0 k (i : Int) b c h t0 t1 t2 t3 t4 t5 t6 t7 t8 = some r ∧ 0 ≤ r.2.2.2.2.2.2.2.2.2.1 := by
  intro d
  induction d with
  | zero =>
    intro k i c h t0 t1 t2 t3 t4 t5 t6 t7 t8 e hk hc
    obtain ⟨k, rfl⟩ : ∃ m, k = m + 2 := ⟨k - 2, by omega⟩
    simp only [spec_l1Table.l0]
    rw [if_neg (by omega)]
    exact l1Table_j1 b hb k c h hc ..
  | succ d ih =>
    intro k i c h t0 t1 t2 t3 t4 t5 t6 t7 t8 e hk hc
    obtain ⟨k, rfl⟩ : ∃ m, k = m + 1 := ⟨k - 1, by omega⟩
    obtain ⟨q, i2, h2, e2, hq, hi2⟩ := spec_l01Below_f b c h 3 hb hc (by omega) (by omega)
    simp only [spec_l1Table.l0]
    rw [if_pos (by omega), e2, bsome, if_pos (by omega), w64 ((i : Int) + 1) (by omega) (by omega), show (i : Int) + 1 = ((i + 1 : Nat) : Int) from by omega]
    exact ih k (i + 1) i2 h2 _ _ _ _ _ _ _ _ _ (by omega) (by omega) hi2
theorem l1Table_f (b : List Int) (hb : b.length ≤ 2000000) (k : Nat) (hk : 200 ≤ k) (i h : Int) (hi : 0 ≤ i) : ∃ r, spec_l1Table.f k b i h = some r ∧ 0 ≤ r.2.2.2.2.2.2.2.2.2.1 := by
  obtain ⟨s, i1, h1, e1, hs, hi1⟩ := spec_l01Pick_f b seven i h hb hi (by decide) (by decide)
  obtain ⟨t, e2⟩ := TableOf_seven s hs k (by omega)
  obtain ⟨o, i3, h3, e3, hi3⟩ := spec_l01Once_f b i1 h1 2 hb hi1 (by omega) (by omega)
  unfold seven at e1
  unfold spec_l1Table.f
  rw [e1, bsome, e2, bsome, e3, bsome]
  cases o with
  | true => rw [if_pos rfl]; exact l1Table_l0 b hb 9 k 0 _ _ _ _ _ _ _ _ _ _ _ rfl (by omega) hi3
  | false =>
    rw [if_neg (by simp)]
    obtain ⟨k, rfl⟩ : ∃ m, k = m + 1 := ⟨k - 1, by omega⟩
    exact l1Table_j1 b hb k _ _ hi3 ..
theorem okGs_append (g : S46) : ∀ (gs : List S46) (n : Int), okGs n (gs ++ [g]) = (okGs n gs && okG (n + gs.length) g)
  | [], n => by simp [okGs]
  | x :: gs, n => by
    rw [List.cons_append, okGs, okGs, okGs_append g gs (n + 1), Bool.and_assoc, show n + 1 + (gs.length : Int) = n + ((x :: gs).length : Nat) from by rw [List.length_cons]; omega]
theorem okO_append (x n : Int) : ∀ (os : List Int), okO n (os ++ [x]) = (okO n os && decide (0 ≤ x ∧ x < n))
  | [] => by simp [okO]
  | y :: os => by rw [List.cons_append, okO, okO, okO_append x n os, Bool.and_assoc]
theorem l6Draw_l1 (b : List Int) (hb : b.length ≤ 2000000) (a z : Int) (gs : List S46) (a0 : 0 ≤ a) (a1 : a ≤ 8) (hg : gs.length ≤ 60) : ∀ (d k : Nat) (os : List Int) (i h : Int), d < k → 0 ≤ i → os.length + d ≤ 3 → okO (3 + a + gs.length) os = true →
    ∃ os' i' h', spec_l6Draw.l1 k a (d : Int) b i h z gs os = some (z, gs, os', i', h') ∧ os'.length ≤ 3 ∧ okO (3 + a + gs.length) os' = true := by
  intro d
  induction d with
  | zero =>
    intro k os i h hk hi ho hok
    obtain ⟨k, rfl⟩ : ∃ m, k = m + 1 := ⟨k - 1, by omega⟩
    simp only [spec_l6Draw.l1]
    rw [if_neg (by omega)]
    exact ⟨os, i, h, rfl, by omega, hok⟩
  | succ d ih =>
    intro k os i h hk hi ho hok
    obtain ⟨k, rfl⟩ : ∃ m, k = m + 1 := ⟨k - 1, by omega⟩
    simp only [spec_l6Draw.l1]
    rw [if_pos (by omega), w64 (3 + a) (by omega) (by omega), w64 (3 + a + (gs.length : Int)) (by omega) (by omega)]
    obtain ⟨q, i2, h2, e2, hq, hi2⟩ := spec_l01Below_f b i h (3 + a + (gs.length : Int)) hb hi (by omega) (by omega)
    rw [e2, bsome, if_pos (by omega), w64 _ (by omega) (by omega), show ((d + 1 : Nat) : Int) - 1 = (d : Int) from by omega]
    exact ih k _ i2 h2 (by omega) hi2 (by rw [List.length_append]; simp only [List.length_cons, List.length_nil]; omega) (by rw [okO_append, hok, decide_eq_true hq]; rfl)
theorem l6Draw_l0 (b : List Int) (hb : b.length ≤ 2000000) (a z : Int) (a0 : 0 ≤ a) (a1 : a ≤ 8) : ∀ (d k : Nat) (gs : List S46) (i h : Int), d + 300 < k → 0 ≤ i → gs.length + d ≤ 8 → okGs (3 + a) gs = true →
    ∃ gs' os' i' h', spec_l6Draw.l0 k a (d : Int) b i h z gs = some (z, gs', os', i', h') ∧ gs'.length ≤ 8 ∧ os'.length ≤ 3 ∧ okGs (3 + a) gs' = true ∧ okO (3 + a + gs'.length) os' = true := by
  intro d
  induction d with
  | zero =>
    intro k gs i h hk hi hg hok
    obtain ⟨k, rfl⟩ : ∃ m, k = m + 1 := ⟨k - 1, by omega⟩
    simp only [spec_l6Draw.l0]
    obtain ⟨q, i2, h2, e2, hq, hi2⟩ := spec_l01Below_f b i h 4 hb hi (by omega) (by omega)
    rw [if_neg (by omega), e2, bsome]
    obtain ⟨m, rfl⟩ := Int.eq_ofNat_of_zero_le hq.1
    obtain ⟨os', i', h', e3, ho, hok'⟩ := l6Draw_l1 b hb a z gs a0 a1 (by omega) m k [] i2 h2 (by omega) hi2 (by simp; omega) rfl
    exact ⟨gs, os', i', h', e3, by omega, ho, hok, hok'⟩
  | succ d ih =>
    intro k gs i h hk hi hg hok
    obtain ⟨k, rfl⟩ : ∃ m, k = m + 1 := ⟨k - 1, by omega⟩
    obtain ⟨r, e1, hi1⟩ := l1Table_f b hb k (by omega) i h hi
    have e2 := TableOf_any k (by omega)
    simp only [spec_l6Draw.l0]
    rw [if_pos (by omega), e1, bsome, w64 (3 + a) (by omega) (by omega), w64 (3 + a + (gs.length : Int)) (by omega) (by omega), w64 (((d + 1 : Nat) : Int) - 1) (by omega) (by omega), show ((d + 1 : Nat) : Int) - 1 = (d : Int) from by omega]
    unfold spec_IsTable.f
    rw [bsome]
    obtain ⟨q, i2, h2, e3, hq, hi2⟩ := spec_l01Below_f b _ r.2.2.2.2.2.2.2.2.2.2 (3 + a + (gs.length : Int)) hb hi1 (by omega) (by omega)
    obtain ⟨p, i4, h4, e4, hp, hi4⟩ := spec_l01Below_f b i2 h2 (3 + a + (gs.length : Int)) hb hi2 (by omega) (by omega)
    have step : ∀ T : S23, isT9 [T.f0, T.f1, T.f2, T.f3, T.f4, T.f5, T.f6, T.f7, T.f8] = true → okGs (3 + a) (gs ++ [(⟨T, q, p⟩ : S46)]) = true := by
      intro T hT
      rw [okGs_append, hok]
      show (true && (isT9 [T.f0, T.f1, T.f2, T.f3, T.f4, T.f5, T.f6, T.f7, T.f8] && (decide (0 ≤ q ∧ q < 3 + a + gs.length) && decide (0 ≤ p ∧ p < 3 + a + gs.length)))) = true
      rw [hT, decide_eq_true hq, decide_eq_true hp]; rfl
    have hl : ∀ g : S46, (gs ++ [g]).length + d ≤ 8 := by intro g; rw [List.length_append]; simp only [List.length_cons, List.length_nil]; omega
    by_cases c : isT9 [r.1, r.2.1, r.2.2.1, r.2.2.2.1, r.2.2.2.2.1, r.2.2.2.2.2.1, r.2.2.2.2.2.2.1, r.2.2.2.2.2.2.2.1, r.2.2.2.2.2.2.2.2.1] = true
    · rw [if_pos c, e3, bsome, e4, bsome, if_pos (by omega)]
      exact ih k _ i4 h4 (by omega) hi4 (hl _) (step ⟨r.1, r.2.1, r.2.2.1, r.2.2.2.1, r.2.2.2.2.1, r.2.2.2.2.2.1, r.2.2.2.2.2.2.1, r.2.2.2.2.2.2.2.1, r.2.2.2.2.2.2.2.2.1⟩ c)
    · rw [if_neg c, e2, bsome, e3, bsome, e4, bsome, if_pos (by omega)]
      exact ih k _ i4 h4 (by omega) hi4 (hl _) (step ⟨-1, -1, 0, -1, 0, 1, 0, 1, 1⟩ rfl)
theorem MakeCircuit_f (k : Nat) (l : List Int) (n : Int) (hk : 2000002 ≤ k) (hl : l.length ≤ 2000000) (n0 : 0 ≤ n) (n1 : n ≤ 8) : ∃ gs os, spec_MakeCircuit.f k l n = some (n, gs, os) ∧ isCirc n gs os = true := by
  obtain ⟨h, e⟩ := spec_l01New_f k l hk hl
  have em : mx 0 (mn n 8) = n := by unfold mx mn; split <;> split <;> omega
  unfold spec_MakeCircuit.f
  rw [e, bsome, em]
  unfold spec_l6Draw.f
  obtain ⟨q, i2, h2, e2, hq, hi2⟩ := spec_l01Below_f l 0 h 9 hl (by omega) (by omega) (by omega)
  rw [e2, bsome]
  obtain ⟨m, rfl⟩ := Int.eq_ofNat_of_zero_le hq.1
  obtain ⟨gs, os, i', h', e3, hg, ho, hok, hok'⟩ := l6Draw_l0 l hl n n n0 n1 m k [] i2 h2 (by omega) hi2 (by simp; omega) rfl
  refine ⟨gs, os, ?_, ?_⟩
  · show (spec_l6Draw.l0 k n (m : Int) l i2 h2 n ([] : List S46)).bind _ = _
    rw [e3, bsome]
  · unfold isCirc
    rw [decide_eq_true (show 0 ≤ n ∧ n ≤ 8 from ⟨n0, n1⟩), decide_eq_true (show gs.length ≤ 60 by omega), decide_eq_true (show os.length ≤ 60 by omega), hok, hok']; rfl
theorem linesL_append (gs : List S46) : ∀ (hs : List S46) (xs : List Int), linesL xs (hs ++ gs) = linesL (linesL xs hs) gs
  | [], xs => rfl
  | h :: hs, xs => by rw [List.cons_append, linesL, linesL, linesL_append gs hs]
theorem linesL_old (gs : List S46) : ∀ (xs : List Int) (i : Nat), i < xs.length → rd (linesL xs gs) (i : Int) = rd xs (i : Int) := by
  induction gs with
  | nil => intro xs i h; rfl
  | cons g gs ih =>
    intro xs i h
    rw [linesL, ih _ i (by rw [List.length_append]; omega), rd_append_left _ _ i h]
theorem linesL_trits (gs : List S46) : ∀ (xs : List Int), isT9 xs = true → okGs xs.length gs = true → isT9 (linesL xs gs) = true := by
  induction gs with
  | nil => intro xs h _; exact h
  | cons g gs ih =>
    intro xs h hg
    rw [okGs, Bool.and_eq_true] at hg
    obtain ⟨ht, a0, a1, b0, b1⟩ := okG_parts hg.1
    have hnew := tab9_in g (rd xs g.f1) (rd xs g.f2) ht (isT9_mem h (rd_memI xs _ a0 a1)) (isT9_mem h (rd_memI xs _ b0 b1))
    rw [linesL]
    refine ih _ (isT9_of ?_) ?_
    · intro x hx
      rcases List.mem_append.1 hx with hx | hx
      · exact isT9_mem h hx
      · rw [List.mem_singleton.1 hx]; exact hnew
    · rw [List.length_append, List.length_singleton]
      have := hg.2
      rwa [show ((xs.length + 1 : Nat) : Int) = (xs.length : Int) + 1 from by omega]
theorem okGs_drop : ∀ (gs : List S46) (n : Int) (i : Nat), okGs n gs = true → okGs (n + i) (gs.drop i) = true
  | gs, n, 0, h => by simpa using h
  | [], n, i + 1, h => by simp [okGs]
  | x :: gs, n, i + 1, h => by
    rw [okGs, Bool.and_eq_true] at h
    rw [List.drop_succ_cons, show n + ((i + 1 : Nat) : Int) = n + 1 + (i : Int) from by omega]
    exact okGs_drop gs (n + 1) i h.2
theorem linesL_gate (gs : List S46) (xs : List Int) (hok : okGs xs.length gs = true) (i : Nat) (h : i < gs.length) :
    okG (xs.length + i) (rd_T46 gs (i : Int)) = true ∧
    rd (linesL xs gs) ((xs.length + i : Nat) : Int) = tab9 (rd_T46 gs (i : Int)) (rd (linesL xs gs) (rd_T46 gs (i : Int)).f1) (rd (linesL xs gs) (rd_T46 gs (i : Int)).f2) := by
  have hd := okGs_drop gs _ i hok
  rw [drop_rdG gs i h, okGs, Bool.and_eq_true] at hd
  obtain ⟨ht, a0, a1, b0, b1⟩ := okG_parts hd.1
  refine ⟨hd.1, ?_⟩
  have e : gs = gs.take i ++ (rd_T46 gs (i : Int) :: gs.drop (i + 1)) := by rw [← drop_rdG gs i h, List.take_append_drop]
  generalize hG : rd_T46 gs (i : Int) = g at *
  have hl : (linesL xs (gs.take i)).length = xs.length + i := by rw [linesL_len, List.length_take]; omega
  have e2 : linesL xs gs = linesL (linesL xs (gs.take i) ++ [tab9 g (rd (linesL xs (gs.take i)) g.f1) (rd (linesL xs (gs.take i)) g.f2)]) (gs.drop (i + 1)) := by
    conv => lhs; rw [e]
    rw [linesL_append, linesL]
  have old : ∀ j : Int, 0 ≤ j → j < (xs.length : Int) + i → rd (linesL xs gs) j = rd (linesL xs (gs.take i)) j := by
    intro j j0 j1
    obtain ⟨m, rfl⟩ := Int.eq_ofNat_of_zero_le j0
    rw [e2, linesL_old _ _ m (by rw [List.length_append]; omega), rd_append_left _ _ m (by omega)]
  rw [old g.f1 a0 a1, old g.f2 b0 b1, e2, linesL_old _ _ (xs.length + i) (by rw [List.length_append, hl]; simp), ← hl, rd_append_len]
theorem FnLines_l4 (k : Nat) (hk : 100 ≤ k) : laws_FnLines.l4 k [(-1), 0, 1] 3 0 = some true :=
  up_of (fun k => laws_FnLines.l4 k [(-1), 0, 1] 3 0) (fun k => (laws_FnLines.mono_l k).2.2.2.2.2.1 _ _ _) true 100 (by kernel_rfl) k hk
theorem FnLines_l3 (ls os : List Int) (ho : os.length ≤ 60) (hok : okO ls.length os = true) : ∀ (d k i : Nat), i + d = os.length → d + 100 < k →
    laws_FnLines.l3 k ls (os.map fun x => rd ls x) os (os.length : Int) (i : Int) = some true := by
  intro d
  induction d with
  | zero =>
    intro k i h hk
    obtain ⟨k, rfl⟩ : ∃ m, k = m + 1 := ⟨k - 1, by omega⟩
    simp only [laws_FnLines.l3]
    rw [if_neg (by omega)]
    unfold laws_trits.f
    rw [bsome]
    exact FnLines_l4 k (by omega)
  | succ d ih =>
    intro k i h hk
    obtain ⟨k, rfl⟩ : ∃ m, k = m + 1 := ⟨k - 1, by omega⟩
    simp only [laws_FnLines.l3]
    have hd := okO_drop _ _ i hok
    rw [drop_rd os i (by omega), okO, Bool.and_eq_true, decide_eq_true_eq] at hd
    have e : rd (os.map fun x => rd ls x) (i : Int) = rd ls (rd os (i : Int)) := by
      rw [rd_nat, List.getD_eq_getElem?_getD, List.getElem?_map, List.getElem?_eq_getElem (by omega), rd_nat os, List.getD_eq_getElem?_getD, List.getElem?_eq_getElem (by omega)]; rfl
    rw [if_pos (by omega), if_pos (by omega), if_pos (by omega), if_pos (by rw [List.length_map]; omega), if_pos hd.1.1, if_pos hd.1.2, if_pos e, w64 _ (by omega) (by omega), show (i : Int) + 1 = ((i + 1 : Nat) : Int) from by omega]
    exact ih k (i + 1) (by omega) (by omega)
theorem FnLines_l2 (a : Int) (xs : List Int) (gs : List S46) (os : List Int) (a0 : 0 ≤ a) (a1 : a ≤ 8) (hx : (xs.length : Int) = 3 + a) (ht : isT9 xs = true) (hg : gs.length ≤ 60) (hgs : okGs xs.length gs = true) (ho : os.length ≤ 60) (hok : okO (linesL xs gs).length os = true) : ∀ (d k i : Nat), i + d = gs.length → d + 2000200 < k →
    laws_FnLines.l2 k a (linesL xs gs) (os.map fun x => rd (linesL xs gs) x) gs (gs.length : Int) (i : Int) a gs os = some true := by
  intro d
  induction d with
  | zero =>
    intro k i h hk
    obtain ⟨k, rfl⟩ : ∃ m, k = m + 1 := ⟨k - 1, by omega⟩
    simp only [laws_FnLines.l2]
    rw [if_neg (by omega)]
    exact FnLines_l3 _ os ho hok os.length k 0 (by omega) (by omega)
  | succ d ih =>
    intro k i h hk
    obtain ⟨k, rfl⟩ : ∃ m, k = m + 1 := ⟨k - 1, by omega⟩
    simp only [laws_FnLines.l2]
    obtain ⟨hG, e⟩ := linesL_gate gs xs hgs i (by omega)
    obtain ⟨h9, f0, f1, g0, g1⟩ := okG_parts hG
    have hl := linesL_len gs xs
    have hT := linesL_trits gs xs ht hgs
    generalize rd_T46 gs (i : Int) = g at *
    rw [if_pos (by omega), if_pos (by omega), if_pos (by omega), w64 (3 + a) (by omega) (by omega), w64 (3 + a + (i : Int)) (by omega) (by omega), if_pos (by omega), if_pos (by omega), if_pos f0, if_pos (by omega), if_pos g0, if_pos (by omega)]
    rw [impl_LookUp_g k g _ _ (by omega) h9 (isT9_mem hT (rd_memI _ _ f0 (by omega))) (isT9_mem hT (rd_memI _ _ g0 (by omega))), bsome, ← hx, show (xs.length : Int) + (i : Int) = ((xs.length + i : Nat) : Int) from by omega, if_pos e, w64 _ (by omega) (by omega), show (i : Int) + 1 = ((i + 1 : Nat) : Int) from by omega]
    exact ih k (i + 1) (by omega) (by omega)
theorem FnLines_l1 (a : Int) (ys : List Int) (gs : List S46) (os : List Int) (hy : (ys.length : Int) = a) (a1 : a ≤ 8) (ht : isT9 ys = true) (hg : gs.length ≤ 60) (hgs : okGs (3 + a) gs = true) (ho : os.length ≤ 60) (hok : okO (3 + a + gs.length) os = true) : ∀ (d k i : Nat), i + d = ys.length → d + 3000200 < k →
    laws_FnLines.l1 k a ys (linesL ([-1, 0, 1] ++ ys) gs) (os.map fun x => rd (linesL ([-1, 0, 1] ++ ys) gs) x) (ys.length : Int) (i : Int) a gs os = some true := by
  have hx : ((([-1, 0, 1] ++ ys).length : Nat) : Int) = 3 + a := by rw [List.length_append]; simp only [List.length_cons, List.length_nil]; omega
  have hl := linesL_len gs ([-1, 0, 1] ++ ys)
  intro d
  induction d with
  | zero =>
    intro k i h hk
    obtain ⟨k, rfl⟩ : ∃ m, k = m + 1 := ⟨k - 1, by omega⟩
    simp only [laws_FnLines.l1]
    rw [if_neg (by omega)]
    exact FnLines_l2 a _ gs os (by omega) a1 hx (isT9_of (lines_start ht)) hg (by rw [hx]; exact hgs) ho (by rw [hl, show ((([-1, 0, 1] ++ ys : List Int).length + gs.length : Nat) : Int) = 3 + a + gs.length from by omega]; exact hok) gs.length k 0 (by omega) (by omega)
  | succ d ih =>
    intro k i h hk
    obtain ⟨k, rfl⟩ : ∃ m, k = m + 1 := ⟨k - 1, by omega⟩
    simp only [laws_FnLines.l1]
    have e : rd (linesL ([-1, 0, 1] ++ ys) gs) (3 + (i : Int)) = rd ys (i : Int) := by
      rw [show 3 + (i : Int) = ((3 + i : Nat) : Int) from by omega, linesL_old gs _ (3 + i) (by omega), rd_nat, rd_nat, List.getD_eq_getElem?_getD, List.getD_eq_getElem?_getD, List.getElem?_append_right (by simp)]
      simp
    rw [if_pos (by omega), w64 (3 + (i : Int)) (by omega) (by omega), if_pos (by omega), if_pos (by omega), if_pos (by omega), if_pos (by omega), if_pos e, w64 _ (by omega) (by omega), show (i : Int) + 1 = ((i + 1 : Nat) : Int) from by omega]
    exact ih k (i + 1) (by omega) (by omega)
theorem FnLines_l0 (l : List Int) (hl : l.length ≤ 2000000) (hw : ∀ x ∈ l, (Lit.int .u8 x).wf = true) (n : Nat) (n1 : n ≤ 8) (gs : List S46) (os : List Int) (hc : isCirc n gs os = true) : ∀ (d k i : Nat) (ys : List Int), i + d = n → d + 5000000 < k → ys.length = i → isT9 ys = true →
    laws_FnLines.l0 k l (n : Int) ys (i : Int) (n : Int) gs os = some true := by
  obtain ⟨a0, a1, g1, o1, hgs, hok⟩ := isCirc_parts hc
  intro d
  induction d with
  | zero =>
    intro k i ys h hk hy ht
    obtain ⟨k, rfl⟩ : ∃ m, k = m + 2 := ⟨k - 2, by omega⟩
    simp only [laws_FnLines.l0]
    have e1 : linesOf n gs os ys = (linesL ([-1, 0, 1] ++ ys) gs, true) := by unfold linesOf; rw [if_pos ⟨hc, by omega, ht⟩]
    have e2 : runOf n gs os ys = (os.map fun x => rd (linesL ([-1, 0, 1] ++ ys) gs) x, true) := by unfold runOf; rw [e1, if_pos rfl]
    have hll := linesL_len gs ([-1, 0, 1] ++ ys)
    have hx : ((([-1, 0, 1] ++ ys).length : Nat) : Int) = 3 + n := by rw [List.length_append]; simp only [List.length_cons, List.length_nil]; omega
    have r0 := linesL_old gs ([-1, 0, 1] ++ ys) 0 (by omega)
    have r1 := linesL_old gs ([-1, 0, 1] ++ ys) 1 (by omega)
    have r2 := linesL_old gs ([-1, 0, 1] ++ ys) 2 (by omega)
    have q0 : rd (linesL ([-1, 0, 1] ++ ys) gs) 0 = -1 := r0
    have q1 : rd (linesL ([-1, 0, 1] ++ ys) gs) 1 = 0 := r1
    have q2 : rd (linesL ([-1, 0, 1] ++ ys) gs) 2 = 1 := r2
    rw [if_neg (by omega), impl_LinesOf_f _ _ gs os ys (by omega) (by omega), bsome, impl_RunCircuit_f _ _ gs os ys (by omega) (by omega), bsome, e1, e2, if_pos rfl, if_pos rfl, w64 (3 + (n : Int)) (by omega) (by omega), w64 (3 + (n : Int) + (gs.length : Int)) (by omega) (by omega), if_pos (by show ((linesL ([-1, 0, 1] ++ ys) gs).length : Int) = _; omega), if_pos (by show ((os.map fun x => rd (linesL ([-1, 0, 1] ++ ys) gs) x).length : Int) = _; rw [List.length_map]), if_pos (by show (0 : Int) < ((linesL ([-1, 0, 1] ++ ys) gs).length : Int); omega), if_pos q0, if_pos (by show (1 : Int) < ((linesL ([-1, 0, 1] ++ ys) gs).length : Int); omega), if_pos q1, if_pos (by show (2 : Int) < ((linesL ([-1, 0, 1] ++ ys) gs).length : Int); omega)]
    show laws_FnLines.j1 (k + 1) n ys (linesL ([-1, 0, 1] ++ ys) gs) (os.map fun x => rd (linesL ([-1, 0, 1] ++ ys) gs) x) (rd (linesL ([-1, 0, 1] ++ ys) gs) 2 != 1) n gs os = some true
    rw [q2]
    simp only [laws_FnLines.j1]
    rw [if_neg (by decide)]
    exact FnLines_l1 n ys gs os (by omega) (by omega) ht g1 hgs o1 hok ys.length k 0 (by omega) (by omega)
  | succ d ih =>
    intro k i ys h hk hy ht
    obtain ⟨k, rfl⟩ : ∃ m, k = m + 1 := ⟨k - 1, by omega⟩
    simp only [laws_FnLines.l0]
    obtain ⟨v, ev, v0, v1⟩ := laws_at_f l ((i : Int) + 2) hl hw (by omega) (by omega)
    have hm := (tmod_range (n := v) (m := 3) (by omega)).1 v0
    rw [if_pos (by omega), w64 ((i : Int) + 2) (by omega) (by omega), ev, bsome, if_pos (by omega), w64 (Int.tmod v 3 - 1) (by omega) (by omega), w64 ((i : Int) + 1) (by omega) (by omega), show (i : Int) + 1 = ((i + 1 : Nat) : Int) from by omega]
    refine ih k (i + 1) _ (by omega) (by omega) (by rw [List.length_append, hy]; rfl) (isT9_of ?_)
    intro x hx
    rcases List.mem_append.1 hx with hx | hx
    · exact isT9_mem ht hx
    · rw [List.mem_singleton.1 hx]; omega
end FnLinesParts
open FnLinesParts
attribute [local congr] bind_left

theorem FnLines : laws_FnLines.Pure := by
  intro l hl hsz hw
  obtain ⟨K, hK⟩ : ∃ K, 100000000 ≤ K := ⟨_, Nat.le_refl _⟩
  refine ⟨K + 4, ?_⟩
  unfold laws_FnLines.f
  by_cases c : (l.length : Int) > 1048576
  · rw [if_pos c]
  rw [if_neg c]
  obtain ⟨v, ev, v0, v1⟩ := laws_at_f l 1 (by omega) hw (by omega) (by omega)
  have hm := (tmod_range (n := v) (m := 6) (by omega)).1 v0
  rw [ev, bsome]
  generalize Int.tmod v 6 = n at *
  obtain ⟨m, rfl⟩ := Int.eq_ofNat_of_zero_le hm.1
  obtain ⟨gs, os, e, hc⟩ := MakeCircuit_f (K + 4) l m (by omega) (by omega) (by omega) (by omega)
  rw [e, bsome]
  exact FnLines_l0 l (by omega) hw m (by omega) gs os hc m (K + 4) 0 [] (by omega) (by omega) rfl rfl

end Go.Proofs.Ytaopbkbjfmfcdaa.Pure
