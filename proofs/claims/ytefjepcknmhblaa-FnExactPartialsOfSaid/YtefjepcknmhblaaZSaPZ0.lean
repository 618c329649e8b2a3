/- Two laws on rows of rows: their walks, over one plain statement each; no condition is set on any claim. -/
import Derived.Test.YtefjepcknmhblaaZSaSs1
namespace Go.Proofs.Ytefjepcknmhblaa.P
open Go.RowKit Go.Proofs.YtefjepcknmhblaaW.PrintWords Go.Proofs.YtefjepcknmhblaaW.PrintLast Go.Proofs.YtefjepcknmhblaaW.PrintMore
set_option linter.unusedVariables false
set_option linter.unusedSimpArgs false
/-- What the functions must tell for the law to answer yes. -/
def laws_FnExactPartialsOf.Q (k : Nat) (l0 l1 : List Int) : Prop := ∃ (R Rm : List (List Int)) (b : Bool) (X0 X1 : List Int) (m1 m2 m : Int), laws_toIntS.f k l0 = some l0 ∧ laws_toIntS.f k l1 = some l1 ∧ spec_PartialsOf.f k l0 l1 = some (R, b) ∧ impl_PartialsOf.f k l0 l1 = some (R, b) ∧ laws_eqIntSS.f k R R = some true ∧ laws_eqIntS.f k l0 l0 = some true ∧ laws_eqIntS.f k l1 l1 = some true ∧
  laws_markIntS.f k l0 1 = some (m1, X0) ∧ laws_markIntS.f k l1 m1 = some (m2, X1) ∧ (¬ m2 < 0) ∧ laws_markIntSS.f k R 1 = some (m, Rm) ∧ laws_heldIntSS.f k Rm 1 = some m ∧ (¬ m < 0) ∧ Rm.length = R.length
def laws_FnExactPartialsOf.Pure : Prop := ∀ (l0 : List Int) (l1 : List Int), l0.length ≤ maxLen → l0.length * 8 ≤ 140737488351232 → (∀ x ∈ l0, (Lit.int .i64 x).wf = true) → l1.length ≤ maxLen → l1.length * 8 ≤ 140737488351232 → (∀ x ∈ l1, (Lit.int .i64 x).wf = true) → ¬ (l0.length : Int) > 1048576 → ¬ (l1.length : Int) > 1048576 → ∃ k, laws_FnExactPartialsOf.Q k l0 l1
set_option maxHeartbeats 1600000 in
set_option maxRecDepth 100000 in
theorem earlyPartials0 (A0 : Option Addr) (c0 n0 : Nat) (A1 : Option Addr) (c1 n1 : Nat) (w : World) (h : (n0 : Int) > 1048576) : Calls Try.prog 3 #[.slice A0 n0 c0, .slice A1 n1 c1] w fun e w' => e = .returned (.bool true) ∧ Below w.heap.size w w' := by
  have d0 : decide ((n0 : Int) > 1048576) = true := decide_eq_true h
  have HB := Aside0.mk (Below.refl w.heap.size w)
  clear h
  go_enter Try.func3, Try.ntmps3
  go_wp2
  go_ret
  exact ⟨rfl, bB HB.out⟩
set_option maxHeartbeats 1600000 in
set_option maxRecDepth 100000 in
theorem earlyPartials1 (A0 : Option Addr) (c0 n0 : Nat) (A1 : Option Addr) (c1 n1 : Nat) (w : World) (h0 : ¬ (n0 : Int) > 1048576) (h : (n1 : Int) > 1048576) : Calls Try.prog 3 #[.slice A0 n0 c0, .slice A1 n1 c1] w fun e w' => e = .returned (.bool true) ∧ Below w.heap.size w w' := by
  have d0 : decide ((n0 : Int) > 1048576) = false := decide_eq_false h0
  have d1 : decide ((n1 : Int) > 1048576) = true := decide_eq_true h
  have HB := Aside0.mk (Below.refl w.heap.size w)
  clear h h0
  go_enter Try.func3, Try.ntmps3
  go_wp2
  go_ret
  exact ⟨rfl, bB HB.out⟩
theorem laws_FnExactPartialsOf.walk (P : laws_FnExactPartialsOf.Pure) (a0 : Option Addr) (len0 cap0 : Nat) (z0 : List Int) (a1 : Option Addr) (len1 cap1 : Nat) (z1 : List Int) (w : World) (w0 : (a0 = none ∧ len0 = 0 ∧ cap0 = 0 ∧ z0 = []) ∨ ∃ x, a0 = some x ∧ len0 ≤ cap0 ∧ cap0 ≤ maxLen ∧ z0.length = cap0 ∧ (∀ i, i < z0.length → w.cell? (x.add i) = some (.int .i64 (z0.getD i 0))) ∧ ∀ n ∈ z0, (Lit.int .i64 n).wf = true) (y0 : len0 * 8 ≤ 140737488351232) (w1 : (a1 = none ∧ len1 = 0 ∧ cap1 = 0 ∧ z1 = []) ∨ ∃ x, a1 = some x ∧ len1 ≤ cap1 ∧ cap1 ≤ maxLen ∧ z1.length = cap1 ∧ (∀ i, i < z1.length → w.cell? (x.add i) = some (.int .i64 (z1.getD i 0))) ∧ ∀ n ∈ z1, (Lit.int .i64 n).wf = true) (y1 : len1 * 8 ≤ 140737488351232) :
    Calls Try.prog 3 #[.slice a0 len0 cap0, .slice a1 len1 cap1] w fun e w' => e = .returned (.bool true) ∧ Below w.heap.size w w' := by
  obtain ⟨l0, rfl, hr0, hm0, hw0, hc0⟩ := ReadsInt.ofRowC w0
  obtain ⟨l1, rfl, hr1, hm1, hw1, hc1⟩ := ReadsInt.ofRowC w1
  by_cases g0 : (l0.length : Int) > 1048576
  · exact earlyPartials0 _ _ _ _ _ _ w g0
  by_cases g1 : (l1.length : Int) > 1048576
  · exact earlyPartials1 _ _ _ _ _ _ w g0 g1
  obtain ⟨k, R, Rm, b, X0, X1, m1, m2, m, t0, t1, s, i, e, e0, e1, k0, k1, n2, kS, hS, nm, hl⟩ := P l0 l1 hm0 y0 hw0 hm1 y1 hw1 g0 g1
  exact walkPartialsOf k _ _ l0 _ _ l1 R Rm b X0 X1 m1 m2 m w (Kd.C_of_reads (d := (0 : Int)) (h1 := fun _ => rfl) hr0) hc0 (Kd.C_of_reads (d := (0 : Int)) (h1 := fun _ => rfl) hr1) hc1 g0 g1 t0 t1 s i e e0 e1 k0 k1 n2 kS hS nm hl
end Go.Proofs.Ytefjepcknmhblaa.P
