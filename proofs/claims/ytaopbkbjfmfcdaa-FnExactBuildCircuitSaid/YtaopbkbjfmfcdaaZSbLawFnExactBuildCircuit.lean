/- What functions of the program come to, each with the proof that it does, laid by a program of this session out of the translation; no condition is set on any claim. -/
import Derived.Test.YtaopbkbjfmfcdaaRows
import Derived.Test.YtaopbkbjfmfcdaaZSbPSh9
import Derived.Test.YtaopbkbjfmfcdaaZSbPureFnExactBuildCircuit
import Derived.Test.YtaopbkbjfmfcdaaZSbOpen
import Derived.WalkKit
import Derived.ProofKit
import Derived.OpenShut
import Derived.ShutString
import Derived.ChangeOld
import Derived.Below
import Derived.SizedLaws
namespace Go.Proofs.Ytaopbkbjfmfcdaa.fnExactBuildCircuit
open Go.ChangeShapes Go.WideShapes Go.ChangeAt Go.RowKit Go.Proofs.Ytaopbkbjfmfcdaa.P Go.Proofs.YtaopbkbjfmfcdaaW.PrintWords
open Go.ChangeMaps (open_string shut_string)
set_option linter.unusedVariables false
theorem own : ownKnob Try.prog.godebug = none := by kernel_rfl
theorem laidOut : laidOutB Try.prog = true := by kernel_rfl
theorem opens22 : Open.Opens Try.prog 22 k22 (fun x => ((Lit.int .i64 x.f0).wf = true ∧ (Lit.int .i64 x.f1).wf = true ∧ (Lit.int .i64 x.f2).wf = true ∧ (Lit.int .i64 x.f3).wf = true ∧ (Lit.int .i64 x.f4).wf = true ∧ (Lit.int .i64 x.f5).wf = true ∧ (Lit.int .i64 x.f6).wf = true ∧ (Lit.int .i64 x.f7).wf = true ∧ (Lit.int .i64 x.f8).wf = true)) := Open.opens_array (mk := fun x => ⟨x.1, x.2.1, x.2.2.1, x.2.2.2.1, x.2.2.2.2.1, x.2.2.2.2.2.1, x.2.2.2.2.2.2.1, x.2.2.2.2.2.2.2.1, x.2.2.2.2.2.2.2.2⟩) [Open.elemF 3 0, Open.elemF 3 1, Open.elemF 3 2, Open.elemF 3 3, Open.elemF 3 4, Open.elemF 3 5, Open.elemF 3 6, Open.elemF 3 7, Open.elemF 3 8] Try.underlying22 (by kernel_rfl) (by kernel_rfl) (fun _ => rfl) (by decide) (Open.opensF_cons rfl (by kernel_rfl) rfl (Open.opens_int Try.underlying3) (Open.opensF_cons rfl (by kernel_rfl) rfl (Open.opens_int Try.underlying3) (Open.opensF_cons rfl (by kernel_rfl) rfl (Open.opens_int Try.underlying3) (Open.opensF_cons rfl (by kernel_rfl) rfl (Open.opens_int Try.underlying3) (Open.opensF_cons rfl (by kernel_rfl) rfl (Open.opens_int Try.underlying3) (Open.opensF_cons rfl (by kernel_rfl) rfl (Open.opens_int Try.underlying3) (Open.opensF_cons rfl (by kernel_rfl) rfl (Open.opens_int Try.underlying3) (Open.opensF_cons rfl (by kernel_rfl) rfl (Open.opens_int Try.underlying3) (Open.opensF_one rfl (by kernel_rfl) (Open.opens_int Try.underlying3))))))))))
set_option maxRecDepth 100000 in
theorem lifted (os : Os) (started : os.Started) (H : Type) (enc : TypeId × Value → H) :
    ReturnsInHanded {} Try.checked os 13 .any (Rows.fnExactBuildCircuitSpec.pre6 enc Try.prog Try.f13 Rows.fnExactBuildCircuitRow.domain false) (Rows.fnExactBuildCircuitSpec.post enc Try.prog Try.f13 false true false false) := by
  refine returnsInHanded_of_change_sized (C := Try.checked) own started (by kernel_rfl) Try.func13
    (ChangeSpec.witness6 (enc := enc) (C := Try.checked) false ⟨#[], #[(.agg #[(.int .i64 0), (.int .i64 0), (.int .i64 0), (.int .i64 0), (.int .i64 0), (.int .i64 0), (.int .i64 0), (.int .i64 0), (.int .i64 0)])], []⟩ 8 (by kernel_rfl) (by kernel_rfl) (by kernel_rfl) (by kernel_rfl)) ?_
  intro W base args ds gs before hval0 hW hcnd hsz0 _
  have hval : ∀ (j : Nat) t v, Try.f13.params[j]? = some t → args[j]? = some v → Value.okWide Try.prog W .any base t v := hval0
  have hW' := hW
  obtain ⟨p, q, hA0, hV, rfl, hfz, hnd⟩ := hW
  have hA : DataW.TrodAll enc Try.prog W 0 (fun _ => true) true Try.f13.params.toList args.toList ds p := hA0
  rw [Try.params13] at hA hval
  obtain ⟨v0, vs0, d0, ds0, p0, q0, hargs, rfl, rfl, h0, r0⟩ := trodAll_cons hA
  obtain ⟨rfl, rfl, rfl⟩ := trodAll_nil r0
  obtain rfl : args = #[v0] := by cases args; simp_all
  obtain ⟨rfl, rfl⟩ := trodVars_none hV
  have k0 := h0
  have lt0 : ∀ x ∈ p0, x.block < W.heap.size := by obtain ⟨m, hm⟩ := k0; exact DataW.trod_lt m _ _ _ hm
  obtain ⟨fuel0, hf0⟩ := h0
  obtain ⟨x0, hk0, hg0⟩ := (opens22) _ _ _ _ _ _ _ _ _ hf0
  obtain ⟨cs0, rfl, _⟩ := (show ∃ cs, v0 = .agg cs ∧ True from by have h_ := hval 0 22 v0 rfl rfl; simp only [Value.okWide, Try.underlying22] at h_; obtain ⟨cs, h1, _⟩ := h_; exact ⟨cs, h1, trivial⟩)
  have hcs0 := k22_open hk0
  obtain rfl : cs0 = #[.int .i64 x0.f0, .int .i64 x0.f1, .int .i64 x0.f2, .int .i64 x0.f3, .int .i64 x0.f4, .int .i64 x0.f5, .int .i64 x0.f6, .int .i64 x0.f7, .int .i64 x0.f8] := by rw [← Array.toArray_toList (xs := cs0)]; exact congrArg List.toArray hcs0
  clear hA0 hval0 hsz0
  refine (P.laws_FnExactBuildCircuit.walk Pure.FnExactBuildCircuit x0.f0 x0.f1 x0.f2 x0.f3 x0.f4 x0.f5 x0.f6 x0.f7 x0.f8 W hg0.1 hg0.2.1 hg0.2.2.1 hg0.2.2.2.1 hg0.2.2.2.2.1 hg0.2.2.2.2.2.1 hg0.2.2.2.2.2.2.1 hg0.2.2.2.2.2.2.2.1 hg0.2.2.2.2.2.2.2.2).mono fun e W' ⟨he, bel⟩ => ?_
  subst he
  exact ⟨_, rfl, _, _, _, [], _, [], hW', trodAll_mk1 (shut_bool Try.underlying4 _), (trodAll_cons_mk (Below.trod laidOut (by kernel_rfl) (of_decide_eq_true (by kernel_rfl)) k0 bel lt0) trodAll_mk0), rfl, bel.frame _, fun h => by cases h⟩
theorem over : Rows.fnExactBuildCircuitRow.holds Try.pinned (OpenSpec.ofChange Rows.fnExactBuildCircuitSpec) :=
  OpenClaim.holds_of_wide 13 Try.f13 rfl rfl rfl rfl rfl rfl rfl ⟨rfl, rfl, rfl, rfl, rfl⟩ rfl rfl rfl rfl rfl (by kernel_rfl) Try.func13 (by kernel_rfl)
    (of_decide_eq_true (by kernel_rfl)) (by unfold Func.isWrapper; first | (rw [if_pos (by decide +kernel)]; kernel_rfl) | (rw [if_neg (by decide +kernel)]; exact ⟨rfl, rfl⟩))
    (fun os started H enc _ => lifted os started H enc)
theorem proved : Rows.FnExactBuildCircuitSaid := over
#print axioms proved
end Go.Proofs.Ytaopbkbjfmfcdaa.fnExactBuildCircuit
namespace Go.Proofs.Ytaopbkbjfmfcdaa
/-- The row, under a short name, for the claim. -/
theorem fnExactBuildCircuit_holds : Rows.FnExactBuildCircuitSaid := fnExactBuildCircuit.proved
end Go.Proofs.Ytaopbkbjfmfcdaa
