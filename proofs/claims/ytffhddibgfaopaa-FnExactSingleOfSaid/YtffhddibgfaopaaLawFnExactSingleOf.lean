/- What functions of the program come to, each with the proof that it does, laid by a program of this session out of the translation; no condition is set on any claim. -/
import Derived.Test.YtffhddibgfaopaaRows
import Derived.Test.YtffhddibgfaopaaPZ0
import Derived.Test.YtffhddibgfaopaaPureFnExactSingleOf
import Derived.Test.YtffhddibgfaopaaOpen
import Derived.WalkKit
import Derived.ProofKit
import Derived.OpenShut
import Derived.ShutString
import Derived.ChangeOld
import Derived.Below
import Derived.SizedLaws
namespace Go.Proofs.Ytffhddibgfaopaa.fnExactSingleOf
open Go.ChangeShapes Go.WideShapes Go.ChangeAt Go.RowKit Go.Proofs.Ytffhddibgfaopaa.P Go.Proofs.YtffhddibgfaopaaW.PrintWords
open Go.ChangeMaps (open_string shut_string)
set_option linter.unusedVariables false
theorem own : ownKnob Try.prog.godebug = none := by kernel_rfl
theorem laidOut : laidOutB Try.prog = true := by kernel_rfl
theorem opens24 : Open.Opens Try.prog 24 k24 (fun x => ((x.f0.length ≤ maxLen ∧ ∀ x_f0_, x_f0_ ∈ x.f0 → (Lit.int .i64 x_f0_).wf = true) ∧ (Lit.int .i64 x.f1).wf = true)) := Open.opens_struct (mk := fun x => ⟨x.1, x.2⟩) Try.underlying24 (by kernel_rfl) (fun _ => rfl) (Open.opensF_cons rfl (by kernel_rfl) rfl (Open.opens_slice Try.underlying22 (by kernel_rfl) (Open.opens_int Try.underlying3)) (Open.opensF_one rfl (by kernel_rfl) (Open.opens_int Try.underlying3)))
set_option maxRecDepth 100000 in
theorem lifted (os : Os) (started : os.Started) (H : Type) (enc : TypeId × Value → H) :
    ReturnsInHanded {} Try.checked os 4 .any (Rows.fnExactSingleOfSpec.pre6 enc Try.prog Try.f4 Rows.fnExactSingleOfRow.domain false) (Rows.fnExactSingleOfSpec.post enc Try.prog Try.f4 false true false false) := by
  refine returnsInHanded_of_change_sized (C := Try.checked) own started (by kernel_rfl) Try.func4
    (ChangeSpec.witness6 (enc := enc) (C := Try.checked) false ⟨#[], #[(.agg #[(.slice none 0 0), (.int .i64 0)])], []⟩ 8 (by kernel_rfl) (by kernel_rfl) (by kernel_rfl) (by kernel_rfl)) ?_
  intro W base args ds gs before hval0 hW hcnd hsz0 _
  have hval : ∀ (j : Nat) t v, Try.f4.params[j]? = some t → args[j]? = some v → Value.okWide Try.prog W .any base t v := hval0
  have hW' := hW
  obtain ⟨p, q, hA0, hV, rfl, hfz, hnd⟩ := hW
  have hA : DataW.TrodAll enc Try.prog W 0 (fun _ => true) true Try.f4.params.toList args.toList ds p := hA0
  rw [Try.params4] at hA hval
  obtain ⟨v0, vs0, d0, ds0, p0, q0, hargs, rfl, rfl, h0, r0⟩ := trodAll_cons hA
  obtain ⟨rfl, rfl, rfl⟩ := trodAll_nil r0
  obtain rfl : args = #[v0] := by cases args; simp_all
  obtain ⟨rfl, rfl⟩ := trodVars_none hV
  have k0 := h0
  have lt0 : ∀ x ∈ p0, x.block < W.heap.size := by obtain ⟨m, hm⟩ := k0; exact DataW.trod_lt m _ _ _ hm
  obtain ⟨fuel0, hf0⟩ := h0
  obtain ⟨x0, hk0, hg0⟩ := opens24 _ _ _ _ _ _ _ _ _ hf0
  obtain ⟨cs0, rfl, _⟩ := okWide_struct Try.underlying24 (hval 0 24 v0 rfl rfl)
  obtain ⟨A0_0, c0_0, hcs0, hl0_0, hC0_0⟩ := k24_open hk0
  obtain rfl : cs0 = #[.slice A0_0 x0.f0.length c0_0, .int .i64 x0.f1] := by rw [← Array.toArray_toList (xs := cs0)]; exact congrArg List.toArray hcs0
  clear hA0 hval0 hsz0
  refine (P.laws_FnExactSingleOf.walk Pure.FnExactSingleOf A0_0 c0_0 x0.f0 x0.f1 W hC0_0 hl0_0 hg0.1.1).mono fun e W' ⟨he, bel⟩ => ?_
  subst he
  exact ⟨_, rfl, _, _, _, [], _, [], hW', trodAll_mk1 (shut_bool Try.underlying4 _), (trodAll_cons_mk (Below.trod laidOut (by kernel_rfl) (of_decide_eq_true (by kernel_rfl)) k0 bel lt0) trodAll_mk0), rfl, bel.frame _, fun h => by cases h⟩
theorem over : Rows.fnExactSingleOfRow.holds Try.pinned (OpenSpec.ofChange Rows.fnExactSingleOfSpec) :=
  OpenClaim.holds_of_wide 4 Try.f4 rfl rfl rfl rfl rfl rfl rfl ⟨rfl, rfl, rfl, rfl, rfl⟩ rfl rfl rfl rfl rfl (by kernel_rfl) Try.func4 (by kernel_rfl)
    (of_decide_eq_true (by kernel_rfl)) (by unfold Func.isWrapper; first | (rw [if_pos (by decide +kernel)]; kernel_rfl) | (rw [if_neg (by decide +kernel)]; exact ⟨rfl, rfl⟩))
    (fun os started H enc _ => lifted os started H enc)
theorem proved : Rows.FnExactSingleOfSaid := over
#print axioms proved
end Go.Proofs.Ytffhddibgfaopaa.fnExactSingleOf
namespace Go.Proofs.Ytffhddibgfaopaa
/-- The row, under a short name, for the claim. -/
theorem fnExactSingleOf_holds : Rows.FnExactSingleOfSaid := fnExactSingleOf.proved
end Go.Proofs.Ytffhddibgfaopaa
