/- What functions of the program come to, each with the proof that it does, laid by a program of this session out of the translation; no condition is set on any claim. -/
import Derived.Test.YtaopbkbjfmfcdaaRows
import Derived.Test.YtaopbkbjfmfcdaaZStPSk9
import Derived.Test.YtaopbkbjfmfcdaaZStPureFnExactTrimCircuit
import Derived.Test.YtaopbkbjfmfcdaaZStOpen
import Derived.WalkKit
import Derived.ProofKit
import Derived.OpenShut
import Derived.ShutString
import Derived.ChangeOld
import Derived.Below
import Derived.SizedLaws
namespace Go.Proofs.Ytaopbkbjfmfcdaa.fnExactTrimCircuit
open Go.ChangeShapes Go.WideShapes Go.ChangeAt Go.RowKit Go.Proofs.Ytaopbkbjfmfcdaa.P Go.Proofs.YtaopbkbjfmfcdaaW.PrintWords
open Go.ChangeMaps (open_string shut_string)
set_option linter.unusedVariables false
theorem own : ownKnob Try.prog.godebug = none := by kernel_rfl
theorem laidOut : laidOutB Try.prog = true := by kernel_rfl
theorem opens22 : Open.Opens Try.prog 22 k22 (fun x => ((Lit.int .i64 x.f0).wf = true ∧ (Lit.int .i64 x.f1).wf = true ∧ (Lit.int .i64 x.f2).wf = true ∧ (Lit.int .i64 x.f3).wf = true ∧ (Lit.int .i64 x.f4).wf = true ∧ (Lit.int .i64 x.f5).wf = true ∧ (Lit.int .i64 x.f6).wf = true ∧ (Lit.int .i64 x.f7).wf = true ∧ (Lit.int .i64 x.f8).wf = true)) := Open.opens_array (mk := fun x => ⟨x.1, x.2.1, x.2.2.1, x.2.2.2.1, x.2.2.2.2.1, x.2.2.2.2.2.1, x.2.2.2.2.2.2.1, x.2.2.2.2.2.2.2.1, x.2.2.2.2.2.2.2.2⟩) [Open.elemF 3 0, Open.elemF 3 1, Open.elemF 3 2, Open.elemF 3 3, Open.elemF 3 4, Open.elemF 3 5, Open.elemF 3 6, Open.elemF 3 7, Open.elemF 3 8] Try.underlying22 (by kernel_rfl) (by kernel_rfl) (fun _ => rfl) (by decide) (Open.opensF_cons rfl (by kernel_rfl) rfl (Open.opens_int Try.underlying3) (Open.opensF_cons rfl (by kernel_rfl) rfl (Open.opens_int Try.underlying3) (Open.opensF_cons rfl (by kernel_rfl) rfl (Open.opens_int Try.underlying3) (Open.opensF_cons rfl (by kernel_rfl) rfl (Open.opens_int Try.underlying3) (Open.opensF_cons rfl (by kernel_rfl) rfl (Open.opens_int Try.underlying3) (Open.opensF_cons rfl (by kernel_rfl) rfl (Open.opens_int Try.underlying3) (Open.opensF_cons rfl (by kernel_rfl) rfl (Open.opens_int Try.underlying3) (Open.opensF_cons rfl (by kernel_rfl) rfl (Open.opens_int Try.underlying3) (Open.opensF_one rfl (by kernel_rfl) (Open.opens_int Try.underlying3))))))))))
theorem opens87 : Open.Opens Try.prog 87 k87 (fun x => (((Lit.int .i64 x.f0.f0).wf = true ∧ (Lit.int .i64 x.f0.f1).wf = true ∧ (Lit.int .i64 x.f0.f2).wf = true ∧ (Lit.int .i64 x.f0.f3).wf = true ∧ (Lit.int .i64 x.f0.f4).wf = true ∧ (Lit.int .i64 x.f0.f5).wf = true ∧ (Lit.int .i64 x.f0.f6).wf = true ∧ (Lit.int .i64 x.f0.f7).wf = true ∧ (Lit.int .i64 x.f0.f8).wf = true) ∧ (Lit.int .i64 x.f1).wf = true ∧ (Lit.int .i64 x.f2).wf = true)) := Open.opens_struct (mk := fun x => ⟨x.1, x.2.1, x.2.2⟩) Try.underlying87 (by kernel_rfl) (fun _ => rfl) (Open.opensF_cons rfl (by kernel_rfl) rfl (opens22) (Open.opensF_cons rfl (by kernel_rfl) rfl (Open.opens_int Try.underlying3) (Open.opensF_one rfl (by kernel_rfl) (Open.opens_int Try.underlying3))))
theorem opens30 : Open.Opens Try.prog 30 k30 (fun x => ((Lit.int .i64 x.f0).wf = true ∧ (x.f1.length ≤ maxLen ∧ ∀ x_f1_, x_f1_ ∈ x.f1 → (((Lit.int .i64 x_f1_.f0.f0).wf = true ∧ (Lit.int .i64 x_f1_.f0.f1).wf = true ∧ (Lit.int .i64 x_f1_.f0.f2).wf = true ∧ (Lit.int .i64 x_f1_.f0.f3).wf = true ∧ (Lit.int .i64 x_f1_.f0.f4).wf = true ∧ (Lit.int .i64 x_f1_.f0.f5).wf = true ∧ (Lit.int .i64 x_f1_.f0.f6).wf = true ∧ (Lit.int .i64 x_f1_.f0.f7).wf = true ∧ (Lit.int .i64 x_f1_.f0.f8).wf = true) ∧ (Lit.int .i64 x_f1_.f1).wf = true ∧ (Lit.int .i64 x_f1_.f2).wf = true)) ∧ (x.f2.length ≤ maxLen ∧ ∀ x_f2_, x_f2_ ∈ x.f2 → (Lit.int .i64 x_f2_).wf = true))) := Open.opens_struct (mk := fun x => ⟨x.1, x.2.1, x.2.2⟩) Try.underlying30 (by kernel_rfl) (fun _ => rfl) (Open.opensF_cons rfl (by kernel_rfl) rfl (Open.opens_int Try.underlying3) (Open.opensF_cons rfl (by kernel_rfl) rfl (Open.opens_slice Try.underlying27 (by kernel_rfl) opens87) (Open.opensF_one rfl (by kernel_rfl) (Open.opens_slice Try.underlying28 (by kernel_rfl) (Open.opens_int Try.underlying3)))))
set_option maxRecDepth 100000 in
theorem lifted (os : Os) (started : os.Started) (H : Type) (enc : TypeId × Value → H) :
    ReturnsInHanded {} Try.checked os 9 .any (Rows.fnExactTrimCircuitSpec.pre6 enc Try.prog Try.f9 Rows.fnExactTrimCircuitRow.domain false) (Rows.fnExactTrimCircuitSpec.post enc Try.prog Try.f9 false true false false) := by
  refine returnsInHanded_of_change_sized (C := Try.checked) own started (by kernel_rfl) Try.func9
    (ChangeSpec.witness6 (enc := enc) (C := Try.checked) false ⟨#[], #[(.agg #[(.int .i64 0), (.slice none 0 0), (.slice none 0 0)])], []⟩ 8 (by kernel_rfl) (by kernel_rfl) (by kernel_rfl) (by kernel_rfl)) ?_
  intro W base args ds gs before hval0 hW hcnd hsz0 _
  have hval : ∀ (j : Nat) t v, Try.f9.params[j]? = some t → args[j]? = some v → Value.okWide Try.prog W .any base t v := hval0
  have hW' := hW
  obtain ⟨p, q, hA0, hV, rfl, hfz, hnd⟩ := hW
  have hA : DataW.TrodAll enc Try.prog W 0 (fun _ => true) true Try.f9.params.toList args.toList ds p := hA0
  rw [Try.params9] at hA hval
  obtain ⟨v0, vs0, d0, ds0, p0, q0, hargs, rfl, rfl, h0, r0⟩ := trodAll_cons hA
  obtain ⟨rfl, rfl, rfl⟩ := trodAll_nil r0
  obtain rfl : args = #[v0] := by cases args; simp_all
  obtain ⟨rfl, rfl⟩ := trodVars_none hV
  have k0 := h0
  have lt0 : ∀ x ∈ p0, x.block < W.heap.size := by obtain ⟨m, hm⟩ := k0; exact DataW.trod_lt m _ _ _ hm
  obtain ⟨fuel0, hf0⟩ := h0
  obtain ⟨x0, hk0, hg0⟩ := opens30 _ _ _ _ _ _ _ _ _ hf0
  obtain ⟨cs0, rfl, _⟩ := okWide_struct Try.underlying30 (hval 0 30 v0 rfl rfl)
  obtain ⟨A0_1, c0_1, A0_2, c0_2, hcs0, hl0_1, hC0_1, hl0_2, hC0_2⟩ := k30_open hk0
  obtain rfl : cs0 = #[.int .i64 x0.f0, .slice A0_1 x0.f1.length c0_1, .slice A0_2 x0.f2.length c0_2] := by rw [← Array.toArray_toList (xs := cs0)]; exact congrArg List.toArray hcs0
  clear hA0 hval0 hsz0
  refine (P.laws_FnExactTrimCircuit.walk Pure.FnExactTrimCircuit x0.f0 A0_1 c0_1 x0.f1 A0_2 c0_2 x0.f2 W hg0.1 hC0_1 hl0_1 hg0.2.1 hC0_2 hl0_2 hg0.2.2).mono fun e W' ⟨he, bel⟩ => ?_
  subst he
  exact ⟨_, rfl, _, _, _, [], _, [], hW', trodAll_mk1 (shut_bool Try.underlying4 _), (trodAll_cons_mk (Below.trod laidOut (by kernel_rfl) (of_decide_eq_true (by kernel_rfl)) k0 bel lt0) trodAll_mk0), rfl, bel.frame _, fun h => by cases h⟩
theorem over : Rows.fnExactTrimCircuitRow.holds Try.pinned (OpenSpec.ofChange Rows.fnExactTrimCircuitSpec) :=
  OpenClaim.holds_of_wide 9 Try.f9 rfl rfl rfl rfl rfl rfl rfl ⟨rfl, rfl, rfl, rfl, rfl⟩ rfl rfl rfl rfl rfl (by kernel_rfl) Try.func9 (by kernel_rfl)
    (of_decide_eq_true (by kernel_rfl)) (by unfold Func.isWrapper; first | (rw [if_pos (by decide +kernel)]; kernel_rfl) | (rw [if_neg (by decide +kernel)]; exact ⟨rfl, rfl⟩))
    (fun os started H enc _ => lifted os started H enc)
theorem proved : Rows.FnExactTrimCircuitSaid := over
#print axioms proved
end Go.Proofs.Ytaopbkbjfmfcdaa.fnExactTrimCircuit
namespace Go.Proofs.Ytaopbkbjfmfcdaa
/-- The row, under a short name, for the claim. -/
theorem fnExactTrimCircuit_holds : Rows.FnExactTrimCircuitSaid := fnExactTrimCircuit.proved
end Go.Proofs.Ytaopbkbjfmfcdaa
