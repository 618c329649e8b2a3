/- What functions of the program come to, each with the proof that it does, laid by a program of this session out of the translation; no condition is set on any claim. -/
import Derived.Test.YtffhddibgfaopaaDoorRows
import Derived.Test.YtffhddibgfaopaaDoorZDfPTf5
import Derived.Test.YtffhddibgfaopaaDoorZDfPureFnExactFormatFloat
import Derived.Test.YtffhddibgfaopaaDoorZDfOpen
import Derived.WalkKit
import Derived.ProofKit
import Derived.OpenShut
import Derived.ShutString
import Derived.ChangeOld
import Derived.Below
import Derived.SizedLaws
import Derived.LaidMore
import Derived.Lib.LaidTab
import Derived.Stop.Joined
import Derived.Stop.LaidErr
import Derived.HandedShaped
import Derived.Shelf.Vars
import Derived.SevenTiedAt
import Derived.Test.YtffhddibgfaopaaDoorTie
import Derived.Test.YtffhddibgfaopaaDoorCards
namespace Go.Proofs.YtffhddibgfaopaaDoor.fnExactFormatFloat
open Go.ChangeShapes Go.WideShapes Go.ChangeAt Go.RowKit Go.Proofs.YtffhddibgfaopaaDoor.P Go.Proofs.YtffhddibgfaopaaDoorW.PrintWords
open Go.ChangeMaps (open_string shut_string)
set_option linter.unusedVariables false
theorem own : ownKnob Tryd.prog.godebug = none := by kernel_rfl
theorem gPow : Tryd.prog.globalNamed "internal/strconv.uint64pow10" = some 1 := by kernel_rfl
theorem gPowType : (Tryd.prog.globals[1]?).map (·.type) = some 98 := by kernel_rfl
theorem cells82 : Tryd.prog.cellsOf 82 = 1 := by kernel_rfl
theorem cells98 : Tryd.prog.cellsOf 98 = 20 := by kernel_rfl
/-- The heap that the initialisers' own run leaves meets the condition. -/
theorem door_met (os : Os) (args : Array Value) : laidMetH Tryd.prog Rows.fnExactFormatFloatRow.laid ((World.doorLaid Tryd.prog 400 os).forCall (fun _ _ => 0) ⟨#[], args, []⟩).memory :=
  laidMetH_of_parts3 (fuel := 8) (laidMet_of_run' 8 (by kernel_rfl) (by kernel_rfl)) (by kernel_rfl) (by kernel_rfl)
theorem of_pow {W : World} (h : laidMetH Tryd.prog Rows.fnExactFormatFloatRow.laid W) : Lib.TabIs Tryd.prog W "internal/strconv.uint64pow10" .u64 Lib.pow10Tab := by
  rw [MakeChecks.laidMetH_plain _ _ _ (by kernel_rfl)] at h
  exact Lib.tabIs_of_head gPow gPowType Tryd.underlying98 Tryd.underlying82 cells82 cells98 h.tail.tail
theorem laidOut : laidOutB Tryd.prog = true := by kernel_rfl
theorem opens24 : Open.Opens Tryd.prog 24 k24 (fun x => ((x.f0.length ≤ maxLen ∧ ∀ x_f0_, x_f0_ ∈ x.f0 → (Lit.int .i64 x_f0_).wf = true) ∧ (Lit.int .i64 x.f1).wf = true)) := Open.opens_struct (mk := fun x => ⟨x.1, x.2⟩) Tryd.underlying24 (by kernel_rfl) (fun _ => rfl) (Open.opensF_cons rfl (by kernel_rfl) rfl (Open.opens_slice Tryd.underlying22 (by kernel_rfl) (Open.opens_int Tryd.underlying3)) (Open.opensF_one rfl (by kernel_rfl) (Open.opens_int Tryd.underlying3)))
set_option maxRecDepth 100000 in
theorem lifted (os : Os) (started : os.Started) (H : Type) (enc : TypeId × Value → H) :
    ReturnsInHanded {} Tryd.checked os 3 .any (fun w args => (Rows.fnExactFormatFloatSpec.pre enc Tryd.prog Tryd.f3 Rows.fnExactFormatFloatRow.domain false w args ∧ laidMetH Tryd.prog Rows.fnExactFormatFloatRow.laid w) ∧ sizedMet enc Tryd.prog Tryd.f3 (OpenSpec.ofChange Rows.fnExactFormatFloatSpec) false w args) (Rows.fnExactFormatFloatSpec.post enc Tryd.prog Tryd.f3 false true false false) := by
  refine returnsInHanded_of_change_and (C := Tryd.checked) (X := fun w _ => laidMetH Tryd.prog Rows.fnExactFormatFloatRow.laid w) (fun _ _ _ hh h => h.of_heap hh) own started (by kernel_rfl) Tryd.func3
    (ChangeSpec.witness_shaped (enc := enc) (C := Tryd.checked) (os := os) (X := fun w _ => laidMetH Tryd.prog Rows.fnExactFormatFloatRow.laid w) false (World.doorLaid Tryd.prog 400 os) #[(.agg #[(.slice none 0 0), (.int .i64 0)])] 8 rfl (World.shaped_of_RefB (by kernel_rfl) (by kernel_rfl)) (by kernel_rfl) (by kernel_rfl) (by kernel_rfl) (door_met os _)) ?_
  intro W base args ds gs before hval0 hW _ hsz0 hL _
  have hval : ∀ (j : Nat) t v, Tryd.f3.params[j]? = some t → args[j]? = some v → Value.okWide Tryd.prog W .any base t v := hval0
  have hW' := hW
  obtain ⟨p, q, hA0, hV, rfl, hfz, hnd⟩ := hW
  have hA : DataW.TrodAll enc Tryd.prog W 0 (fun _ => true) true Tryd.f3.params.toList args.toList ds p := hA0
  rw [Tryd.params3] at hA hval
  obtain ⟨v0, vs0, d0, ds0, p0, q0, hargs, rfl, rfl, h0, r0⟩ := trodAll_cons hA
  obtain ⟨rfl, rfl, rfl⟩ := trodAll_nil r0
  obtain rfl : args = #[v0] := by cases args; simp_all
  obtain ⟨rfl, rfl⟩ := trodVars_none hV
  have k0 := h0
  have lt0 : ∀ x ∈ p0, x.block < W.heap.size := by obtain ⟨m, hm⟩ := k0; exact DataW.trod_lt m _ _ _ hm
  obtain ⟨fuel0, hf0⟩ := h0
  obtain ⟨x0, hk0, hg0⟩ := opens24 _ _ _ _ _ _ _ _ _ hf0
  obtain ⟨cs0, rfl, _⟩ := okWide_struct Tryd.underlying24 (hval 0 24 v0 rfl rfl)
  obtain ⟨A0_0, c0_0, hcs0, hl0_0, hC0_0⟩ := k24_open hk0
  obtain rfl : cs0 = #[.slice A0_0 x0.f0.length c0_0, .int .i64 x0.f1] := by rw [← Array.toArray_toList (xs := cs0)]; exact congrArg List.toArray hcs0
  clear hA0 hval0 hsz0
  refine (P.laws_FnExactFormatFloat.walk Pure.FnExactFormatFloat A0_0 c0_0 x0.f0 x0.f1 W hC0_0 hl0_0 hg0.1 hg0.2 (LaidB.of (of_pow hL))).mono fun e W' ⟨he, bel⟩ => ?_
  subst he
  exact ⟨_, rfl, _, _, _, [], _, [], hW', trodAll_mk1 (shut_bool Tryd.underlying4 _), (trodAll_cons_mk (Below.trod laidOut (by kernel_rfl) (of_decide_eq_true (by kernel_rfl)) k0 bel lt0) trodAll_mk0), rfl, bel.frame _, fun h => by cases h⟩
theorem over : Rows.fnExactFormatFloatRow.holds Tryd.pinned (OpenSpec.ofChange Rows.fnExactFormatFloatSpec) :=
  OpenClaim.holds_of_wide 3 Tryd.f3 rfl rfl rfl rfl rfl rfl rfl ⟨rfl, rfl, rfl, rfl, rfl⟩ rfl rfl rfl rfl rfl (by kernel_rfl) Tryd.func3 (by kernel_rfl)
    (of_decide_eq_true (by kernel_rfl)) (by unfold Func.isWrapper; first | (rw [if_pos (by decide +kernel)]; kernel_rfl) | (rw [if_neg (by decide +kernel)]; exact ⟨rfl, rfl⟩))
    (fun os started H enc _ => lifted os started H enc)
theorem proved : Rows.FnExactFormatFloatSaid := over
theorem card : Rows.FnExactFormatFloatCardSaid :=
  Claim7.holds_tied_plain_at .later [] [.data, .data, .data] true (true, "e1b10de8fa6d690d93c898d1ec597c89e4b2ac7ec58272fe459e80c2dcb124bb") true
    proved (fun _ h => by cases h) (by kernel_rfl) (fun _ h => by cases h) fnExactFormatFloat_row_tie rfl ⟨rfl, rfl⟩ (by kernel_rfl) rfl
    (fun f fn hf hfn => by
      obtain rfl : f = 3 := Option.some.inj ((show Tryd.prog.funcNamed "loop.example/g03225/laws.FnExactFormatFloat" = some 3 by kernel_rfl).symm.trans hf) |>.symm
      obtain rfl : fn = Tryd.f3 := (Option.some.inj (Tryd.func3.symm.trans hfn)).symm
      exact ⟨by kernel_rfl, fun j t ht => by
        rw [Tryd.params3] at ht
        have h3 : t = 24 := by
          rcases j with _ | j
          · simpa using ht.symm
          · simp at ht
        subst h3
        exact (show Tryd.prog.wantsStandIn 24 = false by kernel_rfl)⟩)
    (by kernel_rfl)
#print axioms card
end Go.Proofs.YtffhddibgfaopaaDoor.fnExactFormatFloat
namespace Go.Proofs.YtffhddibgfaopaaDoor
/-- The row, under a short name, for the claim. -/
theorem fnExactFormatFloat_holds : Rows.FnExactFormatFloatCardSaid := fnExactFormatFloat.card
end Go.Proofs.YtffhddibgfaopaaDoor
