/- Two laws on rows of rows: their walks, over one plain statement each; no condition is set on any claim. -/
import Derived.Test.YtefjepcknmhblaaZSbSs1
namespace Go.Proofs.Ytefjepcknmhblaa.P
open Go.RowKit Go.Proofs.YtefjepcknmhblaaW.PrintWords Go.Proofs.YtefjepcknmhblaaW.PrintLast Go.Proofs.YtefjepcknmhblaaW.PrintMore
set_option linter.unusedVariables false
set_option linter.unusedSimpArgs false
/-- .. and of the sum by a tree. -/
def laws_FnExactTreeSum.Q (k : Nat) (l0 : List (List Int)) : Prop := ∃ z, laws_szIntSS.f k l0 1048576 = some z ∧ (¬ z < 0 → ∃ (Xm : List (List Int)) (r1 Gm : List Int) (r2 m1 m : Int) (r3 : Bool), laws_toIntSS.f k l0 = some l0 ∧ spec_TreeSum.f k l0 = some (r1, r2, r3) ∧ impl_TreeSum.f k l0 = some (r1, r2, r3) ∧ laws_eqIntS.f k r1 r1 = some true ∧ laws_eqIntSS.f k l0 l0 = some true ∧
  laws_markIntSS.f k l0 1 = some (m1, Xm) ∧ (¬ m1 < 0) ∧ laws_markIntS.f k r1 1 = some (m, Gm) ∧ laws_heldIntS.f k Gm 1 = some m ∧ (¬ m < 0))
def laws_FnExactTreeSum.Pure : Prop := ∀ (l0 : List (List Int)), (l0.length ≤ maxLen ∧ ∀ l0_, l0_ ∈ l0 → (l0_.length ≤ maxLen ∧ ∀ l0__, l0__ ∈ l0_ → (Lit.int .i64 l0__).wf = true)) → ∃ k, laws_FnExactTreeSum.Q k l0
set_option maxHeartbeats 1600000 in
set_option maxRecDepth 100000 in
theorem earlyTree (k : Nat) (A0 : Option Addr) (c0 : Nat) (l0 : List (List Int)) (z : Int) (w : World) (hr0 : Kd.C (Kd.slice 3 (Kd.int .i64)) w A0 l0.length l0) (hc0 : l0.length ≤ c0) (hz : laws_szIntSS.f k l0 1048576 = some z) (hz0 : z < 0) :
    Calls Try.prog 4 #[.slice A0 l0.length c0] w fun e w' => e = .returned (.bool true) ∧ Below w.heap.size w w' := by
  have HR0 := Aside0.mk hr0
  have HC0 := Aside0.mk hc0
  have HB := Aside0.mk (Below.refl w.heap.size w)
  have FZ := Aside0.mk hz
  have d0 : decide (z < 0) = true := decide_eq_true hz0
  clear hr0 hc0 hz hz0
  go_enter Try.func4, Try.ntmps4
  go_wp2_with (go_at_call 13; (with_reducible refine (laws_szIntSS.calls k _ _ l0 1048576 z _ ?s1 HC0.out FZ.out).mono ?_); (case s1 => exact (Kd.C_below HR0.out (bB HB.out))); rintro e_ w_ ⟨rfl, ⟨nd, rfl⟩⟩)
  go_ret
  exact ⟨rfl, bB HB.out⟩
theorem laws_FnExactTreeSum.walk (P : laws_FnExactTreeSum.Pure) (A0 : Option Addr) (c0 : Nat) (l0 : List (List Int)) (w : World) (hr0 : Kd.C (Kd.slice 3 (Kd.int .i64)) w A0 l0.length l0) (hc0 : l0.length ≤ c0) (hg0 : (l0.length ≤ maxLen ∧ ∀ l0_, l0_ ∈ l0 → (l0_.length ≤ maxLen ∧ ∀ l0__, l0__ ∈ l0_ → (Lit.int .i64 l0__).wf = true))) :
    Calls Try.prog 4 #[.slice A0 l0.length c0] w fun e w' => e = .returned (.bool true) ∧ Below w.heap.size w w' := by
  obtain ⟨k, z, hz, h⟩ := P l0 hg0
  by_cases c : z < 0
  · exact earlyTree k A0 c0 l0 z w hr0 hc0 hz c
  · obtain ⟨Xm, r1, Gm, r2, m1, m, r3, t, s, i, e, ee, kS, n1, k1, hh, nm⟩ := h c
    exact walkTreeSum k A0 c0 l0 Xm r1 Gm r2 z m1 m r3 w hr0 hc0 hz c t s i e ee kS n1 k1 hh nm
end Go.Proofs.Ytefjepcknmhblaa.P
