/- What functions of the program come to, each with the proof that it does, laid by a program of this session out of the translation; no condition is set on any claim. -/
import Derived.Test.YtaopbkbjfmfcdaaZSfPx0
import Derived.Test.YtaopbkbjfmfcdaaZSfPx1
import Derived.Test.YtaopbkbjfmfcdaaZSfPx5
import Derived.Test.YtaopbkbjfmfcdaaZSfPx6
import Derived.Test.YtaopbkbjfmfcdaaZSfPx7
namespace Go.Proofs.Ytaopbkbjfmfcdaa.P
open Go.RowKit Go.Proofs.YtaopbkbjfmfcdaaW.PrintWords Go.Proofs.YtaopbkbjfmfcdaaW.PrintLast Go.Proofs.YtaopbkbjfmfcdaaW.PrintMore
attribute [local go_sem] max2_int min2_int max_two min_two max_three min_three max_four min_four   -- for this text's walks alone
set_option linter.unusedVariables false
set_option linter.unusedSimpArgs false

/-! ### laws_FnLines: function 6 -/
mutual
def laws_FnLines.l0 : Nat → List Int → Int → List Int → Int → Int → List (S46) → List Int → Option (Bool)
  | 0, _, _, _, _, _, _, _ => none
  | k + 1, x0, x3, x5, x6, x410000, x410001, x410002 => if x6 < x3 then ((laws_at.f x0 (wrap64 (x6 + 2))).bind fun t413 => (if x5.length < 17592186044416 then (laws_FnLines.l0 k x0 x3 (x5 ++ [wrap64 ((Int.tmod t413 3) - 1)]) (wrap64 (x6 + 1)) x410000 x410001 x410002) else (none))) else ((impl_LinesOf.f k x410000 x410001 x410002 x5).bind fun bt417 => ((impl_RunCircuit.f k x410000 x410001 x410002 x5).bind fun bt421 => (if bt417.2 = true then (if bt421.2 = true then (if (bt417.1.length : Int) = (wrap64 ((wrap64 (3 + x3)) + (x410001.length : Int))) then (if (bt421.1.length : Int) = (x410002.length : Int) then (if 0 < (bt417.1.length : Int) then (if (rd bt417.1 0) = (-1) then (if 1 < (bt417.1.length : Int) then (if (rd bt417.1 1) = 0 then (if 2 < (bt417.1.length : Int) then (laws_FnLines.j1 k x3 x5 bt417.1 bt421.1 ((rd bt417.1 2) != 1) x410000 x410001 x410002) else (none)) else (laws_FnLines.j1 k x3 x5 bt417.1 bt421.1 true x410000 x410001 x410002)) else (none)) else (laws_FnLines.j1 k x3 x5 bt417.1 bt421.1 true x410000 x410001 x410002)) else (none)) else (laws_FnLines.j1 k x3 x5 bt417.1 bt421.1 true x410000 x410001 x410002)) else (laws_FnLines.j1 k x3 x5 bt417.1 bt421.1 true x410000 x410001 x410002)) else (laws_FnLines.j1 k x3 x5 bt417.1 bt421.1 true x410000 x410001 x410002)) else (laws_FnLines.j1 k x3 x5 bt417.1 bt421.1 true x410000 x410001 x410002))))
def laws_FnLines.j1 : Nat → Int → List Int → List Int → List Int → Bool → Int → List (S46) → List Int → Option (Bool)
  | 0, _, _, _, _, _, _, _, _ => none
  | k + 1, x3, x5, x7, x9, x98, x410000, x410001, x410002 => if x98 = true then (some false) else (laws_FnLines.l1 k x3 x5 x7 x9 (x5.length : Int) 0 x410000 x410001 x410002)
def laws_FnLines.l1 : Nat → Int → List Int → List Int → List Int → Int → Int → Int → List (S46) → List Int → Option (Bool)
  | 0, _, _, _, _, _, _, _, _, _ => none
  | k + 1, x3, x5, x7, x9, x100, x101, x410000, x410001, x410002 => if x101 < x100 then (if 0 ≤ (wrap64 (3 + x101)) then (if (wrap64 (3 + x101)) < (x7.length : Int) then (if 0 ≤ x101 then (if x101 < (x5.length : Int) then (if (rd x7 (wrap64 (3 + x101))) = (rd x5 x101) then (laws_FnLines.l1 k x3 x5 x7 x9 x100 (wrap64 (x101 + 1)) x410000 x410001 x410002) else (some false)) else (none)) else (none)) else (none)) else (none)) else (laws_FnLines.l2 k x3 x7 x9 x410001 (x410001.length : Int) 0 x410000 x410001 x410002)
def laws_FnLines.l2 : Nat → Int → List Int → List Int → List (S46) → Int → Int → Int → List (S46) → List Int → Option (Bool)
  | 0, _, _, _, _, _, _, _, _, _ => none
  | k + 1, x3, x7, x9, x116, x117, x118, x410000, x410001, x410002 => if x118 < x117 then (if 0 ≤ x118 then (if x118 < (x116.length : Int) then (if 0 ≤ (wrap64 ((wrap64 (3 + x3)) + x118)) then (if (wrap64 ((wrap64 (3 + x3)) + x118)) < (x7.length : Int) then (if 0 ≤ ((rd_T46 x116 x118).f1) then (if ((rd_T46 x116 x118).f1) < (x7.length : Int) then (if 0 ≤ ((rd_T46 x116 x118).f2) then (if ((rd_T46 x116 x118).f2) < (x7.length : Int) then ((impl_LookUp.f k ((rd_T46 x116 x118).f0.f0) ((rd_T46 x116 x118).f0.f1) ((rd_T46 x116 x118).f0.f2) ((rd_T46 x116 x118).f0.f3) ((rd_T46 x116 x118).f0.f4) ((rd_T46 x116 x118).f0.f5) ((rd_T46 x116 x118).f0.f6) ((rd_T46 x116 x118).f0.f7) ((rd_T46 x116 x118).f0.f8) (rd x7 ((rd_T46 x116 x118).f1)) (rd x7 ((rd_T46 x116 x118).f2))).bind fun t435 => (if (rd x7 (wrap64 ((wrap64 (3 + x3)) + x118))) = t435 then (laws_FnLines.l2 k x3 x7 x9 x116 x117 (wrap64 (x118 + 1)) x410000 x410001 x410002) else (some false))) else (none)) else (none)) else (none)) else (none)) else (none)) else (none)) else (none)) else (none)) else (laws_FnLines.l3 k x7 x9 x410002 (x410002.length : Int) 0)
def laws_FnLines.l3 : Nat → List Int → List Int → List Int → Int → Int → Option (Bool)
  | 0, _, _, _, _, _ => none
  | k + 1, x7, x9, x146, x147, x148 => if x148 < x147 then (if 0 ≤ x148 then (if x148 < (x146.length : Int) then (if x148 < (x9.length : Int) then (if 0 ≤ (rd x146 x148) then (if (rd x146 x148) < (x7.length : Int) then (if (rd x9 x148) = (rd x7 (rd x146 x148)) then (laws_FnLines.l3 k x7 x9 x146 x147 (wrap64 (x148 + 1))) else (some false)) else (none)) else (none)) else (none)) else (none)) else (none)) else ((laws_trits.f).bind fun t439 => (laws_FnLines.l4 k t439 (t439.length : Int) 0))
def laws_FnLines.l4 : Nat → List Int → Int → Int → Option (Bool)
  | 0, _, _, _ => none
  | k + 1, x163, x164, x165 => if x165 < x164 then (if 0 ≤ x165 then (if x165 < (x163.length : Int) then ((laws_trits.f).bind fun t443 => (laws_FnLines.l5 k (rd x163 x165) x163 x164 x165 t443 (t443.length : Int) 0)) else (none)) else (none)) else (some true)
def laws_FnLines.l5 : Nat → Int → List Int → Int → Int → List Int → Int → Int → Option (Bool)
  | 0, _, _, _, _, _, _, _ => none
  | k + 1, x17, x163, x164, x165, x169, x170, x171 => if x171 < x170 then (if 0 ≤ x171 then (if x171 < (x169.length : Int) then ((impl_LiteralTable.f x17).bind fun bt447 => ((impl_LookUp.f k bt447.1 bt447.2.1 bt447.2.2.1 bt447.2.2.2.1 bt447.2.2.2.2.1 bt447.2.2.2.2.2.1 bt447.2.2.2.2.2.2.1 bt447.2.2.2.2.2.2.2.1 bt447.2.2.2.2.2.2.2.2 (rd x169 x171) 0).bind fun t456 => (if ((t456 == 1) != ((rd x169 x171) == x17)) = true then (some false) else ((impl_LiteralTable.f x17).bind fun bt457 => ((impl_LookUp.f k bt457.1 bt457.2.1 bt457.2.2.1 bt457.2.2.2.1 bt457.2.2.2.2.1 bt457.2.2.2.2.2.1 bt457.2.2.2.2.2.2.1 bt457.2.2.2.2.2.2.2.1 bt457.2.2.2.2.2.2.2.2 (rd x169 x171) 1).bind fun t466 => (if ((t466 == (-1)) != ((rd x169 x171) != x17)) = true then (some false) else (laws_FnLines.l5 k x17 x163 x164 x165 x169 x170 (wrap64 (x171 + 1))))))))) else (none)) else (none)) else (laws_FnLines.l4 k x163 x164 (wrap64 (x165 + 1)))
end
def laws_FnLines.f (k : Nat) (l0 : List Int) : Option (Bool) := if (l0.length : Int) > 1048576 then (some true) else ((laws_at.f l0 1).bind fun t401 => ((spec_MakeCircuit.f k l0 (Int.tmod t401 6)).bind fun bt402 => (laws_FnLines.l0 k l0 (Int.tmod t401 6) (([] : List Int)) 0 bt402.1 bt402.2.1 bt402.2.2)))
theorem laws_FnLines.mono_l : ∀ k, (∀ y0 y1 y2 y3 y4 y5 y6, LeO (laws_FnLines.l0 k y0 y1 y2 y3 y4 y5 y6) (laws_FnLines.l0 (k + 1) y0 y1 y2 y3 y4 y5 y6)) ∧ (∀ y0 y1 y2 y3 y4 y5 y6 y7, LeO (laws_FnLines.j1 k y0 y1 y2 y3 y4 y5 y6 y7) (laws_FnLines.j1 (k + 1) y0 y1 y2 y3 y4 y5 y6 y7)) ∧ (∀ y0 y1 y2 y3 y4 y5 y6 y7 y8, LeO (laws_FnLines.l1 k y0 y1 y2 y3 y4 y5 y6 y7 y8) (laws_FnLines.l1 (k + 1) y0 y1 y2 y3 y4 y5 y6 y7 y8)) ∧ (∀ y0 y1 y2 y3 y4 y5 y6 y7 y8, LeO (laws_FnLines.l2 k y0 y1 y2 y3 y4 y5 y6 y7 y8) (laws_FnLines.l2 (k + 1) y0 y1 y2 y3 y4 y5 y6 y7 y8)) ∧ (∀ y0 y1 y2 y3 y4, LeO (laws_FnLines.l3 k y0 y1 y2 y3 y4) (laws_FnLines.l3 (k + 1) y0 y1 y2 y3 y4)) ∧ (∀ y0 y1 y2, LeO (laws_FnLines.l4 k y0 y1 y2) (laws_FnLines.l4 (k + 1) y0 y1 y2)) ∧ (∀ y0 y1 y2 y3 y4 y5 y6, LeO (laws_FnLines.l5 k y0 y1 y2 y3 y4 y5 y6) (laws_FnLines.l5 (k + 1) y0 y1 y2 y3 y4 y5 y6))
  | 0 => ⟨fun _ _ _ _ _ _ _ r h => by simp [laws_FnLines.l0] at h, fun _ _ _ _ _ _ _ _ r h => by simp [laws_FnLines.j1] at h, fun _ _ _ _ _ _ _ _ _ r h => by simp [laws_FnLines.l1] at h, fun _ _ _ _ _ _ _ _ _ r h => by simp [laws_FnLines.l2] at h, fun _ _ _ _ _ r h => by simp [laws_FnLines.l3] at h, fun _ _ _ r h => by simp [laws_FnLines.l4] at h, fun _ _ _ _ _ _ _ r h => by simp [laws_FnLines.l5] at h⟩
  | k + 1 => by
    obtain ⟨ih0, ih1, ih2, ih3, ih4, ih5, ih6⟩ := laws_FnLines.mono_l k
    refine ⟨?_, ?_, ?_, ?_, ?_, ?_, ?_⟩
    · intro y0 y1 y2 y3 y4 y5 y6
      unfold laws_FnLines.l0
      repeat' first
      | (with_reducible exact ih0 _ _ _ _ _ _ _)
      | (with_reducible exact ih1 _ _ _ _ _ _ _ _)
      | (with_reducible exact ih2 _ _ _ _ _ _ _ _ _)
      | (with_reducible exact ih3 _ _ _ _ _ _ _ _ _)
      | (with_reducible exact ih4 _ _ _ _ _)
      | (with_reducible exact ih5 _ _ _)
      | (with_reducible exact ih6 _ _ _ _ _ _ _)
      | (with_reducible exact impl_LinesOf.mono _ _ _ _ _)
      | (with_reducible exact impl_LookUp.mono _ _ _ _ _ _ _ _ _ _ _ _)
      | (with_reducible exact impl_RunCircuit.mono _ _ _ _ _)
      | (with_reducible exact spec_MakeCircuit.mono _ _ _)
      | (with_reducible exact LeO.refl _)
      | (with_reducible exact LeO.none _)
      | (with_reducible refine LeO.ite ?_ ?_)
      | (with_reducible refine LeO.bind ?_ (fun _ => ?_))
      | exact ih0 _ _ _ _ _ _ _
      | exact ih1 _ _ _ _ _ _ _ _
      | exact ih2 _ _ _ _ _ _ _ _ _
      | exact ih3 _ _ _ _ _ _ _ _ _
      | exact ih4 _ _ _ _ _
      | exact ih5 _ _ _
      | exact ih6 _ _ _ _ _ _ _
      | exact impl_LinesOf.mono _ _ _ _ _
      | exact impl_LookUp.mono _ _ _ _ _ _ _ _ _ _ _ _
      | exact impl_RunCircuit.mono _ _ _ _ _
      | exact spec_MakeCircuit.mono _ _ _
      | exact LeO.none _
      | refine LeO.ite ?_ ?_
      | refine LeO.bind ?_ (fun _ => ?_)
    · intro y0 y1 y2 y3 y4 y5 y6 y7
      unfold laws_FnLines.j1
      repeat' first
      | (with_reducible exact ih0 _ _ _ _ _ _ _)
      | (with_reducible exact ih1 _ _ _ _ _ _ _ _)
      | (with_reducible exact ih2 _ _ _ _ _ _ _ _ _)
      | (with_reducible exact ih3 _ _ _ _ _ _ _ _ _)
      | (with_reducible exact ih4 _ _ _ _ _)
      | (with_reducible exact ih5 _ _ _)
      | (with_reducible exact ih6 _ _ _ _ _ _ _)
      | (with_reducible exact impl_LinesOf.mono _ _ _ _ _)
      | (with_reducible exact impl_LookUp.mono _ _ _ _ _ _ _ _ _ _ _ _)
      | (with_reducible exact impl_RunCircuit.mono _ _ _ _ _)
      | (with_reducible exact spec_MakeCircuit.mono _ _ _)
      | (with_reducible exact LeO.refl _)
      | (with_reducible exact LeO.none _)
      | (with_reducible refine LeO.ite ?_ ?_)
      | (with_reducible refine LeO.bind ?_ (fun _ => ?_))
      | exact ih0 _ _ _ _ _ _ _
      | exact ih1 _ _ _ _ _ _ _ _
      | exact ih2 _ _ _ _ _ _ _ _ _
      | exact ih3 _ _ _ _ _ _ _ _ _
      | exact ih4 _ _ _ _ _
      | exact ih5 _ _ _
      | exact ih6 _ _ _ _ _ _ _
      | exact impl_LinesOf.mono _ _ _ _ _
      | exact impl_LookUp.mono _ _ _ _ _ _ _ _ _ _ _ _
      | exact impl_RunCircuit.mono _ _ _ _ _
      | exact spec_MakeCircuit.mono _ _ _
      | exact LeO.none _
      | refine LeO.ite ?_ ?_
      | refine LeO.bind ?_ (fun _ => ?_)
    · intro y0 y1 y2 y3 y4 y5 y6 y7 y8
      unfold laws_FnLines.l1
      repeat' first
      | (with_reducible exact ih0 _ _ _ _ _ _ _)
      | (with_reducible exact ih1 _ _ _ _ _ _ _ _)
      | (with_reducible exact ih2 _ _ _ _ _ _ _ _ _)
      | (with_reducible exact ih3 _ _ _ _ _ _ _ _ _)
      | (with_reducible exact ih4 _ _ _ _ _)
      | (with_reducible exact ih5 _ _ _)
      | (with_reducible exact ih6 _ _ _ _ _ _ _)
      | (with_reducible exact impl_LinesOf.mono _ _ _ _ _)
      | (with_reducible exact impl_LookUp.mono _ _ _ _ _ _ _ _ _ _ _ _)
      | (with_reducible exact impl_RunCircuit.mono _ _ _ _ _)
      | (with_reducible exact spec_MakeCircuit.mono _ _ _)
      | (with_reducible exact LeO.refl _)
      | (with_reducible exact LeO.none _)
      | (with_reducible refine LeO.ite ?_ ?_)
      | (with_reducible refine LeO.bind ?_ (fun _ => ?_))
      | exact ih0 _ _ _ _ _ _ _
      | exact ih1 _ _ _ _ _ _ _ _
      | exact ih2 _ _ _ _ _ _ _ _ _
      | exact ih3 _ _ _ _ _ _ _ _ _
      | exact ih4 _ _ _ _ _
      | exact ih5 _ _ _
      | exact ih6 _ _ _ _ _ _ _
      | exact impl_LinesOf.mono _ _ _ _ _
      | exact impl_LookUp.mono _ _ _ _ _ _ _ _ _ _ _ _
      | exact impl_RunCircuit.mono _ _ _ _ _
      | exact spec_MakeCircuit.mono _ _ _
      | exact LeO.none _
      | refine LeO.ite ?_ ?_
      | refine LeO.bind ?_ (fun _ => ?_)
    · intro y0 y1 y2 y3 y4 y5 y6 y7 y8
      unfold laws_FnLines.l2
      repeat' first
      | (with_reducible exact ih0 _ _ _ _ _ _ _)
      | (with_reducible exact ih1 _ _ _ _ _ _ _ _)
      | (with_reducible exact ih2 _ _ _ _ _ _ _ _ _)
      | (with_reducible exact ih3 _ _ _ _ _ _ _ _ _)
      | (with_reducible exact ih4 _ _ _ _ _)
      | (with_reducible exact ih5 _ _ _)
      | (with_reducible exact ih6 _ _ _ _ _ _ _)
      | (with_reducible exact impl_LinesOf.mono _ _ _ _ _)
      | (with_reducible exact impl_LookUp.mono _ _ _ _ _ _ _ _ _ _ _ _)
      | (with_reducible exact impl_RunCircuit.mono _ _ _ _ _)
      | (with_reducible exact spec_MakeCircuit.mono _ _ _)
      | (with_reducible exact LeO.refl _)
      | (with_reducible exact LeO.none _)
      | (with_reducible refine LeO.ite ?_ ?_)
      | (with_reducible refine LeO.bind ?_ (fun _ => ?_))
      | exact ih0 _ _ _ _ _ _ _
      | exact ih1 _ _ _ _ _ _ _ _
      | exact ih2 _ _ _ _ _ _ _ _ _
      | exact ih3 _ _ _ _ _ _ _ _ _
      | exact ih4 _ _ _ _ _
      | exact ih5 _ _ _
      | exact ih6 _ _ _ _ _ _ _
      | exact impl_LinesOf.mono _ _ _ _ _
      | exact impl_LookUp.mono _ _ _ _ _ _ _ _ _ _ _ _
      | exact impl_RunCircuit.mono _ _ _ _ _
      | exact spec_MakeCircuit.mono _ _ _
      | exact LeO.none _
      | refine LeO.ite ?_ ?_
      | refine LeO.bind ?_ (fun _ => ?_)
    · intro y0 y1 y2 y3 y4
      unfold laws_FnLines.l3
      repeat' first
      | (with_reducible exact ih0 _ _ _ _ _ _ _)
      | (with_reducible exact ih1 _ _ _ _ _ _ _ _)
      | (with_reducible exact ih2 _ _ _ _ _ _ _ _ _)
      | (with_reducible exact ih3 _ _ _ _ _ _ _ _ _)
      | (with_reducible exact ih4 _ _ _ _ _)
      | (with_reducible exact ih5 _ _ _)
      | (with_reducible exact ih6 _ _ _ _ _ _ _)
      | (with_reducible exact impl_LinesOf.mono _ _ _ _ _)
      | (with_reducible exact impl_LookUp.mono _ _ _ _ _ _ _ _ _ _ _ _)
      | (with_reducible exact impl_RunCircuit.mono _ _ _ _ _)
      | (with_reducible exact spec_MakeCircuit.mono _ _ _)
      | (with_reducible exact LeO.refl _)
      | (with_reducible exact LeO.none _)
      | (with_reducible refine LeO.ite ?_ ?_)
      | (with_reducible refine LeO.bind ?_ (fun _ => ?_))
      | exact ih0 _ _ _ _ _ _ _
      | exact ih1 _ _ _ _ _ _ _ _
      | exact ih2 _ _ _ _ _ _ _ _ _
      | exact ih3 _ _ _ _ _ _ _ _ _
      | exact ih4 _ _ _ _ _
      | exact ih5 _ _ _
      | exact ih6 _ _ _ _ _ _ _
      | exact impl_LinesOf.mono _ _ _ _ _
      | exact impl_LookUp.mono _ _ _ _ _ _ _ _ _ _ _ _
      | exact impl_RunCircuit.mono _ _ _ _ _
      | exact spec_MakeCircuit.mono _ _ _
      | exact LeO.none _
      | refine LeO.ite ?_ ?_
      | refine LeO.bind ?_ (fun _ => ?_)
    · intro y0 y1 y2
      unfold laws_FnLines.l4
      repeat' first
      | (with_reducible exact ih0 _ _ _ _ _ _ _)
      | (with_reducible exact ih1 _ _ _ _ _ _ _ _)
      | (with_reducible exact ih2 _ _ _ _ _ _ _ _ _)
      | (with_reducible exact ih3 _ _ _ _ _ _ _ _ _)
      | (with_reducible exact ih4 _ _ _ _ _)
      | (with_reducible exact ih5 _ _ _)
      | (with_reducible exact ih6 _ _ _ _ _ _ _)
      | (with_reducible exact impl_LinesOf.mono _ _ _ _ _)
      | (with_reducible exact impl_LookUp.mono _ _ _ _ _ _ _ _ _ _ _ _)
      | (with_reducible exact impl_RunCircuit.mono _ _ _ _ _)
      | (with_reducible exact spec_MakeCircuit.mono _ _ _)
      | (with_reducible exact LeO.refl _)
      | (with_reducible exact LeO.none _)
      | (with_reducible refine LeO.ite ?_ ?_)
      | (with_reducible refine LeO.bind ?_ (fun _ => ?_))
      | exact ih0 _ _ _ _ _ _ _
      | exact ih1 _ _ _ _ _ _ _ _
      | exact ih2 _ _ _ _ _ _ _ _ _
      | exact ih3 _ _ _ _ _ _ _ _ _
      | exact ih4 _ _ _ _ _
      | exact ih5 _ _ _
      | exact ih6 _ _ _ _ _ _ _
      | exact impl_LinesOf.mono _ _ _ _ _
      | exact impl_LookUp.mono _ _ _ _ _ _ _ _ _ _ _ _
      | exact impl_RunCircuit.mono _ _ _ _ _
      | exact spec_MakeCircuit.mono _ _ _
      | exact LeO.none _
      | refine LeO.ite ?_ ?_
      | refine LeO.bind ?_ (fun _ => ?_)
    · intro y0 y1 y2 y3 y4 y5 y6
      unfold laws_FnLines.l5
      repeat' first
      | (with_reducible exact ih0 _ _ _ _ _ _ _)
      | (with_reducible exact ih1 _ _ _ _ _ _ _ _)
      | (with_reducible exact ih2 _ _ _ _ _ _ _ _ _)
      | (with_reducible exact ih3 _ _ _ _ _ _ _ _ _)
      | (with_reducible exact ih4 _ _ _ _ _)
      | (with_reducible exact ih5 _ _ _)
      | (with_reducible exact ih6 _ _ _ _ _ _ _)
      | (with_reducible exact impl_LinesOf.mono _ _ _ _ _)
      | (with_reducible exact impl_LookUp.mono _ _ _ _ _ _ _ _ _ _ _ _)
      | (with_reducible exact impl_RunCircuit.mono _ _ _ _ _)
      | (with_reducible exact spec_MakeCircuit.mono _ _ _)
      | (with_reducible exact LeO.refl _)
      | (with_reducible exact LeO.none _)
      | (with_reducible refine LeO.ite ?_ ?_)
      | (with_reducible refine LeO.bind ?_ (fun _ => ?_))
      | exact ih0 _ _ _ _ _ _ _
      | exact ih1 _ _ _ _ _ _ _ _
      | exact ih2 _ _ _ _ _ _ _ _ _
      | exact ih3 _ _ _ _ _ _ _ _ _
      | exact ih4 _ _ _ _ _
      | exact ih5 _ _ _
      | exact ih6 _ _ _ _ _ _ _
      | exact impl_LinesOf.mono _ _ _ _ _
      | exact impl_LookUp.mono _ _ _ _ _ _ _ _ _ _ _ _
      | exact impl_RunCircuit.mono _ _ _ _ _
      | exact spec_MakeCircuit.mono _ _ _
      | exact LeO.none _
      | refine LeO.ite ?_ ?_
      | refine LeO.bind ?_ (fun _ => ?_)
def laws_FnLines.T17 : Bool × List (List Nat × List Nat) := (true, [([], []), ([], []), ([1], [1]), ([0, 2], [0, 2]), ([3], [3]), ([], []), ([], []), ([5, 6], [5, 6]), ([7], [7]), ([4, 8], [4, 8])])
def laws_FnLines.B17 : List Nat := [0, 0, 2, 7, 15, 0, 0, 96, 224, 511]
theorem laws_FnLines.tab17 : rtab .any (opsOf Try.f6 17) = laws_FnLines.T17 := by kernel_rfl
theorem laws_FnLines.bits17 : waitsOk laws_FnLines.T17.2 laws_FnLines.B17 = true := by kernel_rfl
def laws_FnLines.T23 : Bool × List (List Nat × List Nat) := (true, [([], []), ([], []), ([1], [1]), ([], []), ([2, 3], [2, 3]), ([0, 4], [0, 4]), ([5], [5]), ([], []), ([7], [7]), ([], []), ([], []), ([10], [10]), ([9, 11], [9, 11]), ([12], [12]), ([], []), ([], []), ([15], [15]), ([14, 16], [14, 16]), ([17], [17]), ([8, 13, 18], [8, 13, 18]), ([6, 19], [6, 19])])
def laws_FnLines.B23 : List Nat := [0, 0, 2, 0, 14, 31, 63, 0, 128, 0, 0, 1024, 3584, 7680, 0, 0, 32768, 114688, 245760, 524160, 1048575]
theorem laws_FnLines.tab23 : rtab .any (opsOf Try.f6 23) = laws_FnLines.T23 := by kernel_rfl
theorem laws_FnLines.bits23 : waitsOk laws_FnLines.T23.2 laws_FnLines.B23 = true := by kernel_rfl
def laws_FnLines.T29 : Bool × List (List Nat × List Nat) := (true, [([], []), ([], []), ([0, 1], [0, 1]), ([2], [2]), ([], []), ([], []), ([4, 5], [4, 5]), ([6], [6]), ([3, 7], [3, 7])])
def laws_FnLines.B29 : List Nat := [0, 0, 3, 7, 0, 0, 48, 112, 255]
theorem laws_FnLines.tab29 : rtab .any (opsOf Try.f6 29) = laws_FnLines.T29 := by kernel_rfl
theorem laws_FnLines.bits29 : waitsOk laws_FnLines.T29.2 laws_FnLines.B29 = true := by kernel_rfl
set_option maxHeartbeats 8000000 in
set_option maxRecDepth 100000 in
theorem laws_FnLines.calls (k : Nat) (A0 : Option Addr) (c0 : Nat) (l0 : List Int) (r : Bool) (w : World) (hr0 : Kd.C (Kd.int .u8) w A0 l0.length l0) (hc0 : l0.length ≤ c0) (h : laws_FnLines.f k l0 = some r) (hT : r = true) :
    Calls Try.prog 6 #[.slice A0 l0.length c0] w fun e w' => e = .returned (.bool r) ∧ Below w.heap.size w w' := by
  have hu35 := Try.underlying35
  have hu46 := Try.underlying46
  have hu23 := Try.underlying23
  have HR0 := Aside0.mk hr0
  have HC0 := Aside0.mk hc0
  clear hr0 hc0
  have HB := Aside0.mk (Below.refl w.heap.size w)
  have H : (if (l0.length : Int) > 1048576 then (some true) else ((laws_at.f l0 1).bind fun t401 => ((spec_MakeCircuit.f k l0 (Int.tmod t401 6)).bind fun bt402 => (laws_FnLines.l0 k l0 (Int.tmod t401 6) (([] : List Int)) 0 bt402.1 bt402.2.1 bt402.2.2)))) = some r := h
  clear h
  have HT := Aside0.mk hT
  clear hT
  by_cases c2 : (l0.length : Int) > 1048576
  · rw [if_pos c2] at H
    have c2b0 : decide (1048576 < (l0.length : Int)) = true := decide_eq_true c2
    have c2b1 : decide (1048576 < l0.length) = true := decide_eq_true (by omega)
    clear c2
    obtain rfl := Option.some.inj H
    go_enter Try.func6, Try.ntmps6
    go_wp2
    go_ret
    exact ⟨by first | rfl | (simp [errW_none, errW_some] <;> rfl) | (simp [*, errW_none, errW_some] <;> rfl), by repeat (first | (with_reducible first | exact HB.out | apply below_alloc | apply pw_below_drewN | apply below_drew1) | exact HB.out)⟩
  · rw [if_neg c2] at H
    have c2b0 : decide (1048576 < (l0.length : Int)) = false := decide_eq_false c2
    have c2b1 : decide (1048576 < l0.length) = false := decide_eq_false (by omega)
    clear c2
    replace H := Option.bind_eq_some_iff.mp H
    obtain ⟨t401, A30, H⟩ := H
    replace H : ((spec_MakeCircuit.f k l0 (Int.tmod t401 6)).bind fun bt402 => (laws_FnLines.l0 k l0 (Int.tmod t401 6) (([] : List Int)) 0 bt402.1 bt402.2.1 bt402.2.2)) = some r := H
    have A3 := Aside0.mk A30
    clear A30
    replace H := Option.bind_eq_some_iff.mp H
    obtain ⟨⟨t402, t403, t406⟩, A40, H⟩ := H
    replace H : (laws_FnLines.l0 k l0 (Int.tmod t401 6) (([] : List Int)) 0 t402 t403 t406) = some r := H
    have A4 := Aside0.mk A40
    clear A40
    obtain ⟨y410, hy410⟩ : ∃ y_ : List Int, y_ = (([] : List Int)) := ⟨_, rfl⟩
    replace H : (laws_FnLines.l0 k l0 (Int.tmod t401 6) y410 0 t402 t403 t406) = some r := by first | (rw [hy410]; with_reducible exact H) | (have H2_ := (Option.bind_some _ _).symm.trans H; rw [hy410]; with_reducible exact H2_) | (have H2_ := (Option.bind_some _ _).symm.trans H; with_reducible exact H2_) | with_reducible exact H | (rw [hy410]; exact H) | exact H
    have Ny410 := Aside0.mk hy410
    clear hy410
    have H' := Aside0.mk H
    clear H
    go_enter Try.func6, Try.ntmps6
    go_wp2_with (first | ((with_reducible refine gate_callee (f := 24) rfl ?_); refine goesL_ (some 24) rfl rfl Try.func24 (by kernel_rfl) rfl #[.slice A0 l0.length c0, .int .i64 1] rfl (by (try simp only [List.map_toArray, List.map_cons, List.map_nil]); first | done | rfl | (simp only [List.length_drop, List.length_take]; rfl)) ?_; (with_reducible refine (laws_at.calls _ _ l0 1 t401 _ ?side1 ?side2 A3.out).mono ?_); (case side1 => repeat (first | exact HR0.out | (with_reducible refine Kd.C_alloc ?_ _) | (with_reducible refine Kd.C_drewN ?_ _) | (with_reducible refine Kd.C_drew ?_))); (case side2 => exact HC0.out); rintro e w' ⟨rfl, ⟨nd, rfl⟩⟩; refine ⟨_, rfl, ?_⟩) | ((with_reducible refine gate_callee (f := 25) rfl ?_); refine goesL_ (some 28) rfl rfl Try.func25 (by kernel_rfl) rfl #[.slice A0 l0.length c0, .int .i64 (Int.tmod t401 6)] rfl (by (try simp only [List.map_toArray, List.map_cons, List.map_nil]); first | done | rfl | (simp only [List.length_drop, List.length_take]; rfl)) ?_; (with_reducible refine (spec_MakeCircuit.calls k _ _ l0 (Int.tmod t401 6) t402 t403 t406 _ ?side1 ?side2 A4.out).mono ?_); (case side1 => repeat (first | exact HR0.out | (with_reducible refine Kd.C_alloc ?_ _) | (with_reducible refine Kd.C_drewN ?_ _) | (with_reducible refine Kd.C_drew ?_))); (case side2 => exact HC0.out); rintro e w5 ⟨v404, v407, rfl, ho0, ho1, hb⟩; refine ⟨_, rfl, ?_⟩; have n0_ := Aside0.mk (Kd.R_lower ho0 (below_size (by repeat (first | (with_reducible first | exact HB.out | apply below_alloc | apply pw_below_drewN | apply below_drew1) | exact HB.out)))); have n1_ := Aside0.mk (Kd.R_lower ho1 (below_size (by repeat (first | (with_reducible first | exact HB.out | apply below_alloc | apply pw_below_drewN | apply below_drew1) | exact HB.out)))); have n2_ := Aside0.mk (below_step (by repeat (first | (with_reducible first | exact HB.out | apply below_alloc | apply pw_below_drewN | apply below_drew1) | exact HB.out)) hb); clear HB; have HO405 := n0_; have HO408 := n1_; have HB := n2_; clear n0_ n1_ n2_; (try clear hb); (try clear hb2); (try clear hk); (try clear hi); (try clear ho0); (try clear ho1)) | ((with_reducible refine gate_dst (N := 4) rfl ?_); (try (refine gate_guard (by rfl) ?_; dsimp only)); refine box_event ?hg (N := 4) ?hd (cs := #[.int .i64 0, .slice none 0 0, .slice none 0 0]) (t := 35) ?hr ?_; (case hd => rfl); (case hg => rfl); (case hr => first | (go_simp; done) | (go_simp; rfl)); intro gb409 hg w6 hbox hb; have n0_ := Aside0.mk (Kd.R_below (by (with_reducible repeat (first | apply Kd.R_alloc | apply Kd.R_drewN | apply Kd.R_drew)); exact HO405.out) hb); have n1_ := Aside0.mk (Kd.R_below (by (with_reducible repeat (first | apply Kd.R_alloc | apply Kd.R_drewN | apply Kd.R_drew)); exact HO408.out) hb); have n2_ := Aside0.mk (below_step (by repeat (first | (with_reducible first | exact HB.out | apply below_alloc | apply pw_below_drewN | apply below_drew1) | exact HB.out)) hb); have n3_ := Aside0.mk (hbox); have n4_ := Aside0.mk ((by rw [hg]; exact (below_size (by repeat (first | (with_reducible first | exact HB.out | apply below_alloc | apply pw_below_drewN | apply below_drew1) | exact HB.out))) : w.heap.size ≤ gb409)); have n5_ := Aside0.mk ((by rw [hg]; exact (below_size (by repeat (first | (with_reducible first | exact HB.out | apply below_alloc | apply pw_below_drewN | apply below_drew1) | exact HB.out))) : w.heap.size ≤ gb409)); clear HO405; clear HO408; clear HB; have HO405 := n0_; have HO408 := n1_; have HB := n2_; have BK409 := n3_; have GW409 := n4_; have GE409 := n5_; clear n0_ n1_ n2_ n3_ n4_ n5_; clear hb hbox hg; have hcz7_0 : w6.cell? ⟨gb409, 0, none⟩ = some (.int .i64 0) := (blk_cell BK409.out 0).trans rfl; have hcz7_1 : w6.cell? ⟨gb409, 1, none⟩ = some (.slice none 0 0) := (blk_cell BK409.out 1).trans rfl; have hcz7_2 : w6.cell? ⟨gb409, 2, none⟩ = some (.slice none 0 0) := (blk_cell BK409.out 2).trans rfl; have hfz7_0 := blk_frozen BK409.out 0; have hfz7_1 := blk_frozen BK409.out 1; have hfz7_2 := blk_frozen BK409.out 2; obtain ⟨Ao8, co8, eo8⟩ := Kd.R_slice HO405.out; subst eo8; obtain ⟨Ao9, co9, eo9⟩ := Kd.R_slice HO408.out; subst eo9) | ((with_reducible refine gate_dst (N := 29) rfl ?_); (try (refine gate_guard (by rfl) ?_; dsimp only)); refine Kd.R_lit (Kd.int .i64) _ 3 ?hg (N := 29) ?hd (xs := ([] : List Int)) (inner := []) (ok := fun _ => True) (okp := fun _ => True) ?hr ?hp (fun _ hk => hk) trivial (Below.refl _ _) (Nat.le_refl _) (by simp) ?_; (case hd => rfl); (case hg => rfl); (case hr => first | (go_simp; done) | (go_simp; rfl)); (case hp => exact (Reps.none _ _)); intro v411 w10 ho11 hb hg_ hnew_; clear hg_ hnew_; (first | rw [← Ny410.out] at ho11 | (simp only [Int.reduceToNat] at ho11; rw [← Ny410.out] at ho11)); have n0_ := Aside0.mk (Kd.R_below (by (with_reducible repeat (first | apply Kd.R_alloc | apply Kd.R_drewN | apply Kd.R_drew)); exact (Kd.R_mono (Kd.R_far (p := ⟨gb409, 2, none⟩) (Kd.R_far (p := ⟨gb409, 1, none⟩) (Kd.R_far (p := ⟨gb409, 0, none⟩) (Kd.R_types HO405.out BK409.out (by decide)) (fun _ hk => hk.2) (.int .i64 t402)) (fun _ hk => hk.2) (.slice Ao8 t403.length co8)) (fun _ hk => hk.2) (.slice Ao9 t406.length co9)) (fun _ h_ => h_.1))) hb); have n1_ := Aside0.mk (Kd.R_elder' (by (with_reducible repeat (first | apply Kd.R_alloc | apply Kd.R_drewN | apply Kd.R_drew)); exact (Kd.R_mono (Kd.R_far (p := ⟨gb409, 2, none⟩) (Kd.R_far (p := ⟨gb409, 1, none⟩) (Kd.R_far (p := ⟨gb409, 0, none⟩) (Kd.R_types HO408.out BK409.out (by decide)) (fun _ hk => hk.2) (.int .i64 t402)) (fun _ hk => hk.2) (.slice Ao8 t403.length co8)) (fun _ hk => hk.2) (.slice Ao9 t406.length co9)) (fun _ h_ => h_.1))) (Kd.R_base ho11) hb); have n2_ := Aside0.mk (Kd.R_lower (Kd.R_new' ho11 (Kd.R_lt (by (with_reducible repeat (first | apply Kd.R_alloc | apply Kd.R_drewN | apply Kd.R_drew)); exact (Kd.R_mono (Kd.R_far (p := ⟨gb409, 2, none⟩) (Kd.R_far (p := ⟨gb409, 1, none⟩) (Kd.R_far (p := ⟨gb409, 0, none⟩) (Kd.R_types HO408.out BK409.out (by decide)) (fun _ hk => hk.2) (.int .i64 t402)) (fun _ hk => hk.2) (.slice Ao8 t403.length co8)) (fun _ hk => hk.2) (.slice Ao9 t406.length co9)) (fun _ h_ => h_.1))))) (below_size (by repeat (first | (with_reducible first | exact HB.out | apply below_alloc | apply pw_below_drewN | apply below_drew1 | refine below_set ?_ GE409.out) | exact HB.out)))); have n3_ := Aside0.mk (blk_below (g := gb409) (o := .cells #[.int .i64 t402, .slice Ao8 t403.length co8, .slice Ao9 t406.length co9] 35 (0, 0)) (by (with_reducible repeat (first | refine blk_drewN ?_ _ | refine blk_drew ?_ | refine blk_alloc ?_ _)); refine blk_put (cs := #[.int .i64 t402, .slice Ao8 t403.length co8, .slice none 0 0]) ?_ 2 _ rfl; (with_reducible repeat (first | refine blk_drewN ?_ _ | refine blk_drew ?_ | refine blk_alloc ?_ _)); refine blk_put (cs := #[.int .i64 t402, .slice none 0 0, .slice none 0 0]) ?_ 1 _ rfl; (with_reducible repeat (first | refine blk_drewN ?_ _ | refine blk_drew ?_ | refine blk_alloc ?_ _)); refine blk_put (cs := #[.int .i64 0, .slice none 0 0, .slice none 0 0]) ?_ 0 _ rfl; (with_reducible repeat (first | refine blk_drewN ?_ _ | refine blk_drew ?_ | refine blk_alloc ?_ _)); exact BK409.out) hb); have n4_ := Aside0.mk (below_step (by repeat (first | (with_reducible first | exact HB.out | apply below_alloc | apply pw_below_drewN | apply below_drew1 | refine below_set ?_ GE409.out) | exact HB.out)) hb); clear HO405; clear HO408; clear BK409; clear HB; have HO405 := n0_; have HO408 := n1_; have HO412 := n2_; have BK409 := n3_; have HB := n4_; clear n0_ n1_ n2_ n3_ n4_; clear hb ho11))
    go_loopg [5, 6] k (fun kq v5 v6 w' => ∃ (x5_1 : List Int) (x6_1 : Int), v6 = .int .i64 x6_1 ∧ Aside0 (laws_FnLines.l0 kq l0 (Int.tmod t401 6) x5_1 x6_1 t402 t403 t406 = some r) ∧ Aside0 (kq ≤ k) ∧ Aside0 (Kd.R (Kd.int .i64) 3 w' w.heap.size (fun k_ => some k_ ≠ ((.slice Ao9 t406.length co9) : Value).ownBlock) v5 x5_1) ∧ Aside0 (Kd.R k46 46 w' w.heap.size (fun _ => True) (.slice Ao8 t403.length co8) t403) ∧ Aside0 (Kd.R (Kd.int .i64) 3 w' w.heap.size (fun k_ => some k_ ≠ (v5 : Value).ownBlock) (.slice Ao9 t406.length co9) t406) ∧ Aside0 (w'.heap[gb409]? = some (.cells #[.int .i64 t402, (.slice Ao8 t403.length co8), (.slice Ao9 t406.length co9)] 35 (0, 0))) ∧ Aside0 (Below w.heap.size w w'))
    case atStart => exact ⟨(y410), (0), (by first | rfl | (simp; done) | (simp [*]; done)), H', ⟨Nat.le_refl _⟩, ⟨by (with_reducible repeat (first | apply Kd.R_alloc | apply Kd.R_drewN | apply Kd.R_drew)); exact Kd.R_mono HO412.out (fun _ hk => hk.2)⟩, ⟨by (with_reducible repeat (first | apply Kd.R_alloc | apply Kd.R_drewN | apply Kd.R_drew)); exact HO405.out⟩, ⟨by (with_reducible repeat (first | apply Kd.R_alloc | apply Kd.R_drewN | apply Kd.R_drew)); exact Kd.R_mono HO408.out (fun _ hk => hk.2)⟩, ⟨by (with_reducible repeat (first | refine blk_drewN ?_ _ | refine blk_drew ?_ | refine blk_alloc ?_ _)); exact BK409.out⟩, ⟨by repeat (first | (with_reducible first | exact HB.out | apply below_alloc | apply pw_below_drewN | apply below_drew1 | refine below_set ?_ GE409.out) | exact HB.out)⟩⟩
    case round =>
      clear H'
      try clear c2
      try clear c2b0
      try clear c2b1
      try clear p2
      try clear c6
      try clear hcz7_0
      try clear hcz7_1
      try clear hcz7_2
      try clear hfz7_0
      try clear hfz7_1
      try clear hfz7_2
      obtain ⟨x5_1, x6_1, rfl, HA, HK1, HO_5, HO_410001, HO_410002, BK409, HB⟩ := hrel
      cases gk with
      | zero => exact absurd HA.out (by simp [laws_FnLines.l0])
      | succ k1 =>
        have H := HA.out
        clear HA
        simp only [laws_FnLines.l0] at H
        by_cases c12 : x6_1 < (Int.tmod t401 6)
        · rw [if_pos c12] at H
          have c12b0 : decide (x6_1 < (Int.tmod t401 6)) = true := decide_eq_true c12
          clear c12
          replace H := Option.bind_eq_some_iff.mp H
          obtain ⟨t413, A130, H⟩ := H
          replace H : (if x5_1.length < 17592186044416 then (laws_FnLines.l0 k1 l0 (Int.tmod t401 6) (x5_1 ++ [wrap64 ((Int.tmod t413 3) - 1)]) (wrap64 (x6_1 + 1)) t402 t403 t406) else (none)) = some r := H
          have A13 := Aside0.mk A130
          clear A130
          by_cases c14 : x5_1.length < 17592186044416
          · rw [if_pos c14] at H
            have LMc14 := Aside0.mk c14
            clear c14
            obtain ⟨y414, hy414⟩ : ∃ y_ : List Int, y_ = (x5_1 ++ [wrap64 ((Int.tmod t413 3) - 1)]) := ⟨_, rfl⟩
            replace H : (laws_FnLines.l0 k1 l0 (Int.tmod t401 6) y414 (wrap64 (x6_1 + 1)) t402 t403 t406) = some r := by first | (rw [hy414]; with_reducible exact H) | (have H2_ := (Option.bind_some _ _).symm.trans H; rw [hy414]; with_reducible exact H2_) | (have H2_ := (Option.bind_some _ _).symm.trans H; with_reducible exact H2_) | with_reducible exact H | (rw [hy414]; exact H) | exact H
            have Ny414 := Aside0.mk hy414
            clear hy414
            have H' := Aside0.mk H
            clear H
            go_wp2_with (first | ((with_reducible refine gate_callee (f := 24) rfl ?_); refine goesL_ (some 39) rfl rfl Try.func24 (by kernel_rfl) rfl #[.slice A0 l0.length c0, .int .i64 (wrap64 (x6_1 + 2))] rfl (by (try simp only [List.map_toArray, List.map_cons, List.map_nil]); first | done | rfl | (simp only [List.length_drop, List.length_take]; rfl)) ?_; (with_reducible refine (laws_at.calls _ _ l0 (wrap64 (x6_1 + 2)) t413 _ ?side1 ?side2 A13.out).mono ?_); (case side1 => repeat (first | exact (Kd.C_below HR0.out HB.out) | (with_reducible refine Kd.C_alloc ?_ _) | (with_reducible refine Kd.C_drewN ?_ _) | (with_reducible refine Kd.C_drew ?_))); (case side2 => exact HC0.out); rintro e w' ⟨rfl, ⟨nd, rfl⟩⟩; refine ⟨_, rfl, ?_⟩) | ((with_reducible refine gate_builtin (b := .append) (xs := #[.tmp 35, .tmp 42]) rfl ?_); (try (refine gate_guard (by rfl) ?_; dsimp only)); at_builtin; refine Kd.R_append (Kd.int .i64) (w0 := w) w.heap.size rfl (.tmp 35) (.tmp 42) 28 3 (.int .i64 0) 8 rfl Try.underlying28 info3 rfl (by decide) (by omega) u5 x5_1 (wrap64 ((Int.tmod t413 3) - 1)) [.int .i64 (wrap64 ((Int.tmod t413 3) - 1))] (fun k_ => some k_ ≠ (.slice Ao9 t406.length co9 : Value).ownBlock) (fun _ => False) rfl rfl ?aP (fun _ hk => hk.elim) ?aF ?aO ?aB ?aS ?aL ?_; (case aP => exact rfl); (case aB => exact (by repeat (first | (with_reducible first | exact HB.out | apply below_alloc | apply pw_below_drewN | apply below_drew1 | refine below_set ?_ GE409.out) | exact HB.out))); (case aF => exact (fun k_ hk => Kd.fresh' (Kd.R_lt (by (with_reducible repeat (first | apply Kd.R_alloc | apply Kd.R_drewN | apply Kd.R_drew)); exact HO_410002.out)) k_ hk)); (case aO => exact (by (with_reducible repeat (first | apply Kd.R_alloc | apply Kd.R_drewN | apply Kd.R_drew)); exact HO_5.out)); (case aS => exact (below_size (by repeat (first | (with_reducible first | exact HB.out | apply below_alloc | apply pw_below_drewN | apply below_drew1 | refine below_set ?_ GE409.out) | exact HB.out)))); (case aL => have := LMc14.out; omega); intro v415 w15 ho hb hg hat; rw [← Ny414.out] at ho; have n0_ := Aside0.mk (Kd.R_over' (by (with_reducible repeat (first | apply Kd.R_alloc | apply Kd.R_drewN | apply Kd.R_drew)); exact HO_410001.out) (Kd.R_typed (by (with_reducible repeat (first | apply Kd.R_alloc | apply Kd.R_drewN | apply Kd.R_drew)); exact HO_5.out)) (by decide) hg); have n1_ := Aside0.mk (Kd.R_after (ok := (fun _ => True)) (by (with_reducible repeat (first | apply Kd.R_alloc | apply Kd.R_drewN | apply Kd.R_drew)); exact Kd.R_mono HO_410002.out (fun _ hk => ⟨trivial, hk⟩)) hg hat); have n2_ := Aside0.mk (blk_grown (g := gb409) (o := .cells #[.int .i64 t402, .slice Ao8 t403.length co8, .slice Ao9 t406.length co9] 35 (0, 0)) (by (with_reducible repeat (first | refine blk_drewN ?_ _ | refine blk_drew ?_ | refine blk_alloc ?_ _)); exact BK409.out) hg (Kd.R_ne HO_5.out BK409.out (by decide))); have n3_ := Aside0.mk (hb); have n4_ := Aside0.mk (ho); clear HO_410001; clear HO_410002; clear BK409; clear HB; clear HO_5; have HO_410001 := n0_; have HO_410002 := n1_; have BK409 := n2_; have HB := n3_; have HO416 := n4_; clear n0_ n1_ n2_ n3_ n4_; clear ho hb hg hat))
            go_roundg k1
            case measure => have := HK1.out; omega
            case rel => exact ⟨(y414), (wrap64 (x6_1 + 1)), (by first | rfl | (simp; done) | (simp [*]; done)), H', ⟨by have := HK1.out; omega⟩, ⟨by (with_reducible repeat (first | apply Kd.R_alloc | apply Kd.R_drewN | apply Kd.R_drew)); exact HO416.out⟩, ⟨by (with_reducible repeat (first | apply Kd.R_alloc | apply Kd.R_drewN | apply Kd.R_drew)); exact HO_410001.out⟩, ⟨by (with_reducible repeat (first | apply Kd.R_alloc | apply Kd.R_drewN | apply Kd.R_drew)); exact Kd.R_mono HO_410002.out (fun _ hk => hk.2)⟩, ⟨by (with_reducible repeat (first | refine blk_drewN ?_ _ | refine blk_drew ?_ | refine blk_alloc ?_ _)); exact BK409.out⟩, ⟨by repeat (first | (with_reducible first | exact HB.out | apply below_alloc | apply pw_below_drewN | apply below_drew1 | refine below_set ?_ GE409.out) | exact HB.out)⟩⟩
          · rw [if_neg c14] at H
            exact absurd H (by simp)
        · rw [if_neg c12] at H
          have c12b0 : decide (x6_1 < (Int.tmod t401 6)) = false := decide_eq_false c12
          clear c12
          replace H := Option.bind_eq_some_iff.mp H
          obtain ⟨⟨t417, t420⟩, A160, H⟩ := H
          replace H : ((impl_RunCircuit.f k1 t402 t403 t406 x5_1).bind fun bt421 => (if t420 = true then (if bt421.2 = true then (if (t417.length : Int) = (wrap64 ((wrap64 (3 + (Int.tmod t401 6))) + (t403.length : Int))) then (if (bt421.1.length : Int) = (t406.length : Int) then (if 0 < (t417.length : Int) then (if (rd t417 0) = (-1) then (if 1 < (t417.length : Int) then (if (rd t417 1) = 0 then (if 2 < (t417.length : Int) then (laws_FnLines.j1 k1 (Int.tmod t401 6) x5_1 t417 bt421.1 ((rd t417 2) != 1) t402 t403 t406) else (none)) else (laws_FnLines.j1 k1 (Int.tmod t401 6) x5_1 t417 bt421.1 true t402 t403 t406)) else (none)) else (laws_FnLines.j1 k1 (Int.tmod t401 6) x5_1 t417 bt421.1 true t402 t403 t406)) else (none)) else (laws_FnLines.j1 k1 (Int.tmod t401 6) x5_1 t417 bt421.1 true t402 t403 t406)) else (laws_FnLines.j1 k1 (Int.tmod t401 6) x5_1 t417 bt421.1 true t402 t403 t406)) else (laws_FnLines.j1 k1 (Int.tmod t401 6) x5_1 t417 bt421.1 true t402 t403 t406)) else (laws_FnLines.j1 k1 (Int.tmod t401 6) x5_1 t417 bt421.1 true t402 t403 t406))) = some r := H
          have A16 := Aside0.mk A160
          clear A160
          replace H := Option.bind_eq_some_iff.mp H
          obtain ⟨⟨t421, t424⟩, A170, H⟩ := H
          replace H : (if t420 = true then (if t424 = true then (if (t417.length : Int) = (wrap64 ((wrap64 (3 + (Int.tmod t401 6))) + (t403.length : Int))) then (if (t421.length : Int) = (t406.length : Int) then (if 0 < (t417.length : Int) then (if (rd t417 0) = (-1) then (if 1 < (t417.length : Int) then (if (rd t417 1) = 0 then (if 2 < (t417.length : Int) then (laws_FnLines.j1 k1 (Int.tmod t401 6) x5_1 t417 t421 ((rd t417 2) != 1) t402 t403 t406) else (none)) else (laws_FnLines.j1 k1 (Int.tmod t401 6) x5_1 t417 t421 true t402 t403 t406)) else (none)) else (laws_FnLines.j1 k1 (Int.tmod t401 6) x5_1 t417 t421 true t402 t403 t406)) else (none)) else (laws_FnLines.j1 k1 (Int.tmod t401 6) x5_1 t417 t421 true t402 t403 t406)) else (laws_FnLines.j1 k1 (Int.tmod t401 6) x5_1 t417 t421 true t402 t403 t406)) else (laws_FnLines.j1 k1 (Int.tmod t401 6) x5_1 t417 t421 true t402 t403 t406)) else (laws_FnLines.j1 k1 (Int.tmod t401 6) x5_1 t417 t421 true t402 t403 t406)) = some r := H
          have A17 := Aside0.mk A170
          clear A170
          have HC18 := Aside0.mk H
          clear H
          have hcz19_0 : wr.cell? ⟨gb409, 0, none⟩ = some (.int .i64 t402) := (blk_cell BK409.out 0).trans rfl
          have hcz19_1 : wr.cell? ⟨gb409, 1, none⟩ = some (.slice Ao8 t403.length co8) := (blk_cell BK409.out 1).trans rfl
          have hcz19_2 : wr.cell? ⟨gb409, 2, none⟩ = some (.slice Ao9 t406.length co9) := (blk_cell BK409.out 2).trans rfl
          have hfz19_0 := blk_frozen BK409.out 0
          have hfz19_1 := blk_frozen BK409.out 1
          have hfz19_2 := blk_frozen BK409.out 2
          obtain ⟨Ao20, co20, eo20⟩ := Kd.R_slice HO_5.out
          subst eo20
          go_upto_region 12 with (first | ((with_reducible refine gate_callee (f := 26) rfl ?_); refine goesL_ (some 47) rfl rfl Try.func26 (by kernel_rfl) rfl #[.agg #[.int .i64 t402, .slice Ao8 t403.length co8, .slice Ao9 t406.length co9], .slice Ao20 x5_1.length co20] rfl (by (try simp only [List.map_toArray, List.map_cons, List.map_nil]); first | done | rfl | (simp only [List.length_drop, List.length_take]; rfl)) ?_; (with_reducible refine (impl_LinesOf.calls k1 t402 _ _ t403 _ _ t406 _ _ x5_1 t417 t420 _ ?side1 ?side2 ?side3 ?side4 ?side5 ?side6 A16.out).mono ?_); (case side1 => repeat (first | exact (Kd.R_reads' HO_410001.out).2.2 | (with_reducible refine Kd.C_alloc ?_ _) | (with_reducible refine Kd.C_drewN ?_ _) | (with_reducible refine Kd.C_drew ?_))); (case side2 => exact (Kd.R_reads' HO_410001.out).2.1); (case side3 => repeat (first | exact (Kd.R_reads' HO_410002.out).2.2 | (with_reducible refine Kd.C_alloc ?_ _) | (with_reducible refine Kd.C_drewN ?_ _) | (with_reducible refine Kd.C_drew ?_))); (case side4 => exact (Kd.R_reads' HO_410002.out).2.1); (case side5 => repeat (first | exact (Kd.R_reads' HO_5.out).2.2 | (with_reducible refine Kd.C_alloc ?_ _) | (with_reducible refine Kd.C_drewN ?_ _) | (with_reducible refine Kd.C_drew ?_))); (case side6 => exact (Kd.R_reads' HO_5.out).2.1); rintro e w21 ⟨v418, rfl, ho0, hb⟩; refine ⟨_, rfl, ?_⟩; have n0_ := Aside0.mk (Kd.R_elder' (by (with_reducible repeat (first | apply Kd.R_alloc | apply Kd.R_drewN | apply Kd.R_drew)); exact HO_5.out) (Kd.R_base ho0) hb); have n1_ := Aside0.mk (Kd.R_below (by (with_reducible repeat (first | apply Kd.R_alloc | apply Kd.R_drewN | apply Kd.R_drew)); exact HO_410001.out) hb); have n2_ := Aside0.mk (Kd.R_elder' (by (with_reducible repeat (first | apply Kd.R_alloc | apply Kd.R_drewN | apply Kd.R_drew)); exact HO_410002.out) (Kd.R_base ho0) hb); have n3_ := Aside0.mk (Kd.R_lower (Kd.R_new' (Kd.R_new' ho0 (Kd.R_lt (by (with_reducible repeat (first | apply Kd.R_alloc | apply Kd.R_drewN | apply Kd.R_drew)); exact HO_5.out))) (Kd.R_lt (by (with_reducible repeat (first | apply Kd.R_alloc | apply Kd.R_drewN | apply Kd.R_drew)); exact HO_410002.out))) (below_size (by repeat (first | (with_reducible first | exact HB.out | apply below_alloc | apply pw_below_drewN | apply below_drew1 | refine below_set ?_ GE409.out) | exact HB.out)))); have n4_ := Aside0.mk (blk_below (g := gb409) (o := .cells #[.int .i64 t402, .slice Ao8 t403.length co8, .slice Ao9 t406.length co9] 35 (0, 0)) (by (with_reducible repeat (first | refine blk_drewN ?_ _ | refine blk_drew ?_ | refine blk_alloc ?_ _)); exact BK409.out) hb); have n5_ := Aside0.mk (below_step (by repeat (first | (with_reducible first | exact HB.out | apply below_alloc | apply pw_below_drewN | apply below_drew1 | refine below_set ?_ GE409.out) | exact HB.out)) hb); clear HO_5; clear HO_410001; clear HO_410002; clear BK409; clear HB; have HO_5 := n0_; have HO_410001 := n1_; have HO_410002 := n2_; have HO419 := n3_; have BK409 := n4_; have HB := n5_; clear n0_ n1_ n2_ n3_ n4_ n5_; (try clear hb); (try clear hb2); (try clear hk); (try clear hi); (try clear ho0); have hcz22_0 : w21.cell? ⟨gb409, 0, none⟩ = some (.int .i64 t402) := (blk_cell BK409.out 0).trans rfl; have hcz22_1 : w21.cell? ⟨gb409, 1, none⟩ = some (.slice Ao8 t403.length co8) := (blk_cell BK409.out 1).trans rfl; have hcz22_2 : w21.cell? ⟨gb409, 2, none⟩ = some (.slice Ao9 t406.length co9) := (blk_cell BK409.out 2).trans rfl; have hfz22_0 := blk_frozen BK409.out 0; have hfz22_1 := blk_frozen BK409.out 1; have hfz22_2 := blk_frozen BK409.out 2) | ((with_reducible refine gate_callee (f := 27) rfl ?_); refine goesL_ (some 53) rfl rfl Try.func27 (by kernel_rfl) rfl #[.agg #[.int .i64 t402, .slice Ao8 t403.length co8, .slice Ao9 t406.length co9], .slice Ao20 x5_1.length co20] rfl (by (try simp only [List.map_toArray, List.map_cons, List.map_nil]); first | done | rfl | (simp only [List.length_drop, List.length_take]; rfl)) ?_; (with_reducible refine (impl_RunCircuit.calls k1 t402 _ _ t403 _ _ t406 _ _ x5_1 t421 t424 _ ?side1 ?side2 ?side3 ?side4 ?side5 ?side6 A17.out).mono ?_); (case side1 => repeat (first | exact (Kd.R_reads' HO_410001.out).2.2 | (with_reducible refine Kd.C_alloc ?_ _) | (with_reducible refine Kd.C_drewN ?_ _) | (with_reducible refine Kd.C_drew ?_))); (case side2 => exact (Kd.R_reads' HO_410001.out).2.1); (case side3 => repeat (first | exact (Kd.R_reads' HO_410002.out).2.2 | (with_reducible refine Kd.C_alloc ?_ _) | (with_reducible refine Kd.C_drewN ?_ _) | (with_reducible refine Kd.C_drew ?_))); (case side4 => exact (Kd.R_reads' HO_410002.out).2.1); (case side5 => repeat (first | exact (Kd.R_reads' HO_5.out).2.2 | (with_reducible refine Kd.C_alloc ?_ _) | (with_reducible refine Kd.C_drewN ?_ _) | (with_reducible refine Kd.C_drew ?_))); (case side6 => exact (Kd.R_reads' HO_5.out).2.1); rintro e w23 ⟨v422, rfl, ho0, hb⟩; refine ⟨_, rfl, ?_⟩; have n0_ := Aside0.mk (Kd.R_elder' (by (with_reducible repeat (first | apply Kd.R_alloc | apply Kd.R_drewN | apply Kd.R_drew)); exact HO_5.out) (Kd.R_base ho0) hb); have n1_ := Aside0.mk (Kd.R_below (by (with_reducible repeat (first | apply Kd.R_alloc | apply Kd.R_drewN | apply Kd.R_drew)); exact HO_410001.out) hb); have n2_ := Aside0.mk (Kd.R_elder' (by (with_reducible repeat (first | apply Kd.R_alloc | apply Kd.R_drewN | apply Kd.R_drew)); exact HO_410002.out) (Kd.R_base ho0) hb); have n3_ := Aside0.mk (Kd.R_elder' (by (with_reducible repeat (first | apply Kd.R_alloc | apply Kd.R_drewN | apply Kd.R_drew)); exact HO419.out) (Kd.R_base ho0) hb); have n4_ := Aside0.mk (Kd.R_lower (Kd.R_new' (Kd.R_new' (Kd.R_new' ho0 (Kd.R_lt (by (with_reducible repeat (first | apply Kd.R_alloc | apply Kd.R_drewN | apply Kd.R_drew)); exact HO_5.out))) (Kd.R_lt (by (with_reducible repeat (first | apply Kd.R_alloc | apply Kd.R_drewN | apply Kd.R_drew)); exact HO_410002.out))) (Kd.R_lt (by (with_reducible repeat (first | apply Kd.R_alloc | apply Kd.R_drewN | apply Kd.R_drew)); exact HO419.out))) (below_size (by repeat (first | (with_reducible first | exact HB.out | apply below_alloc | apply pw_below_drewN | apply below_drew1 | refine below_set ?_ GE409.out) | exact HB.out)))); have n5_ := Aside0.mk (blk_below (g := gb409) (o := .cells #[.int .i64 t402, .slice Ao8 t403.length co8, .slice Ao9 t406.length co9] 35 (0, 0)) (by (with_reducible repeat (first | refine blk_drewN ?_ _ | refine blk_drew ?_ | refine blk_alloc ?_ _)); exact BK409.out) hb); have n6_ := Aside0.mk (below_step (by repeat (first | (with_reducible first | exact HB.out | apply below_alloc | apply pw_below_drewN | apply below_drew1 | refine below_set ?_ GE409.out) | exact HB.out)) hb); clear HO_5; clear HO_410001; clear HO_410002; clear HO419; clear BK409; clear HB; have HO_5 := n0_; have HO_410001 := n1_; have HO_410002 := n2_; have HO419 := n3_; have HO423 := n4_; have BK409 := n5_; have HB := n6_; clear n0_ n1_ n2_ n3_ n4_ n5_ n6_; (try clear hb); (try clear hb2); (try clear hk); (try clear hi); (try clear ho0)))
          (try simp only [Act.put, List.setIfInBounds_toArray, List.set_cons_zero, List.set_cons_succ])
          go_cut [98] (fun v98 wc => ∃ (kq : Nat) (x98_17 : Bool), v98 = .bool x98_17 ∧ Aside0 (laws_FnLines.j1 kq (Int.tmod t401 6) x5_1 t417 t421 x98_17 t402 t403 t406 = some r) ∧ Aside0 (kq ≤ k1) ∧ Aside0 (Kd.R (Kd.int .i64) 3 wc w.heap.size (fun k_ => some k_ ≠ (v418 : Value).ownBlock ∧ some k_ ≠ (v422 : Value).ownBlock ∧ some k_ ≠ ((.slice Ao9 t406.length co9) : Value).ownBlock) (.slice Ao20 x5_1.length co20) x5_1) ∧ Aside0 (Kd.R (Kd.int .i64) 3 wc w.heap.size (fun k_ => some k_ ≠ ((.slice Ao20 x5_1.length co20) : Value).ownBlock ∧ some k_ ≠ (v422 : Value).ownBlock ∧ some k_ ≠ ((.slice Ao9 t406.length co9) : Value).ownBlock) v418 t417) ∧ Aside0 (Kd.R (Kd.int .i64) 3 wc w.heap.size (fun k_ => some k_ ≠ ((.slice Ao20 x5_1.length co20) : Value).ownBlock ∧ some k_ ≠ (v418 : Value).ownBlock ∧ some k_ ≠ ((.slice Ao9 t406.length co9) : Value).ownBlock) v422 t421) ∧ Aside0 (Kd.R k46 46 wc w.heap.size (fun _ => True) (.slice Ao8 t403.length co8) t403) ∧ Aside0 (Kd.R (Kd.int .i64) 3 wc w.heap.size (fun k_ => some k_ ≠ ((.slice Ao20 x5_1.length co20) : Value).ownBlock ∧ some k_ ≠ (v418 : Value).ownBlock ∧ some k_ ≠ (v422 : Value).ownBlock) (.slice Ao9 t406.length co9) t406) ∧ Aside0 (wc.heap[gb409]? = some (.cells #[.int .i64 t402, (.slice Ao8 t403.length co8), (.slice Ao9 t406.length co9)] 35 (0, 0))) ∧ Aside0 (Below w.heap.size w wc))
          case first =>
            have H := HC18.out
            clear HC18
            by_cases c24 : t420 = true
            · subst c24
              have H1 : (if t424 = true then (if (t417.length : Int) = (wrap64 ((wrap64 (3 + (Int.tmod t401 6))) + (t403.length : Int))) then (if (t421.length : Int) = (t406.length : Int) then (if 0 < (t417.length : Int) then (if (rd t417 0) = (-1) then (if 1 < (t417.length : Int) then (if (rd t417 1) = 0 then (if 2 < (t417.length : Int) then (laws_FnLines.j1 k1 (Int.tmod t401 6) x5_1 t417 t421 ((rd t417 2) != 1) t402 t403 t406) else (none)) else (laws_FnLines.j1 k1 (Int.tmod t401 6) x5_1 t417 t421 true t402 t403 t406)) else (none)) else (laws_FnLines.j1 k1 (Int.tmod t401 6) x5_1 t417 t421 true t402 t403 t406)) else (none)) else (laws_FnLines.j1 k1 (Int.tmod t401 6) x5_1 t417 t421 true t402 t403 t406)) else (laws_FnLines.j1 k1 (Int.tmod t401 6) x5_1 t417 t421 true t402 t403 t406)) else (laws_FnLines.j1 k1 (Int.tmod t401 6) x5_1 t417 t421 true t402 t403 t406)) = some r := by rw [if_pos rfl] at H; exact H
              clear H
              have H := H1
              clear H1
              by_cases c25 : t424 = true
              · subst c25
                have H1 : (if (t417.length : Int) = (wrap64 ((wrap64 (3 + (Int.tmod t401 6))) + (t403.length : Int))) then (if (t421.length : Int) = (t406.length : Int) then (if 0 < (t417.length : Int) then (if (rd t417 0) = (-1) then (if 1 < (t417.length : Int) then (if (rd t417 1) = 0 then (if 2 < (t417.length : Int) then (laws_FnLines.j1 k1 (Int.tmod t401 6) x5_1 t417 t421 ((rd t417 2) != 1) t402 t403 t406) else (none)) else (laws_FnLines.j1 k1 (Int.tmod t401 6) x5_1 t417 t421 true t402 t403 t406)) else (none)) else (laws_FnLines.j1 k1 (Int.tmod t401 6) x5_1 t417 t421 true t402 t403 t406)) else (none)) else (laws_FnLines.j1 k1 (Int.tmod t401 6) x5_1 t417 t421 true t402 t403 t406)) else (laws_FnLines.j1 k1 (Int.tmod t401 6) x5_1 t417 t421 true t402 t403 t406)) = some r := by rw [if_pos rfl] at H; exact H
                clear H
                have H := H1
                clear H1
                by_cases c26 : (t417.length : Int) = (wrap64 ((wrap64 (3 + (Int.tmod t401 6))) + (t403.length : Int)))
                · rw [if_pos c26] at H
                  have c26b0 : ((t417.length : Int) == (wrap64 ((wrap64 (3 + (Int.tmod t401 6))) + (t403.length : Int)))) = true := beq_iff_eq.mpr c26
                  have c26b1 : ((t417.length : Int) != (wrap64 ((wrap64 (3 + (Int.tmod t401 6))) + (t403.length : Int)))) = false := bne_eq_false_iff_eq.mpr c26
                  clear c26
                  (first | rw [c26b0] | (simp only [i64_w, i32_w]; rw [c26b0]) | skip)
                  by_cases c27 : (t421.length : Int) = (t406.length : Int)
                  · rw [if_pos c27] at H
                    have c27b0 : ((t421.length : Int) == (t406.length : Int)) = true := beq_iff_eq.mpr c27
                    have c27b1 : ((t421.length : Int) != (t406.length : Int)) = false := bne_eq_false_iff_eq.mpr c27
                    have c27b2 : (t421.length == t406.length) = true := by first | simpa using c27 | (simp at c27 ⊢; omega)
                    clear c27
                    by_cases c28 : 0 < (t417.length : Int)
                    · rw [if_pos c28] at H
                      have c28b0 : decide (0 < (t417.length : Int)) = true := decide_eq_true c28
                      have c28b1 : decide (0 < t417.length) = true := decide_eq_true (by omega)
                      clear c28
                      by_cases c29 : (rd t417 0) = (-1)
                      · rw [if_pos c29] at H
                        have c29b0 : ((rd t417 0) == (-1)) = true := beq_iff_eq.mpr c29
                        have c29b1 : ((rd t417 0) != (-1)) = false := bne_eq_false_iff_eq.mpr c29
                        clear c29
                        by_cases c30 : 1 < (t417.length : Int)
                        · rw [if_pos c30] at H
                          have c30b0 : decide (1 < (t417.length : Int)) = true := decide_eq_true c30
                          have c30b1 : decide (1 < t417.length) = true := decide_eq_true (by omega)
                          clear c30
                          by_cases c31 : (rd t417 1) = 0
                          · rw [if_pos c31] at H
                            have c31b0 : ((rd t417 1) == 0) = true := beq_iff_eq.mpr c31
                            have c31b1 : ((rd t417 1) != 0) = false := bne_eq_false_iff_eq.mpr c31
                            clear c31
                            by_cases c32 : 2 < (t417.length : Int)
                            · rw [if_pos c32] at H
                              have c32b0 : decide (2 < (t417.length : Int)) = true := decide_eq_true c32
                              have c32b1 : decide (2 < t417.length) = true := decide_eq_true (by omega)
                              clear c32
                              have H' := Aside0.mk H
                              clear H
                              obtain ⟨Ao33, co33, eo33⟩ := Kd.R_slice HO419.out
                              subst eo33
                              have hcz34_0 : w23.cell? ⟨gb409, 0, none⟩ = some (.int .i64 t402) := (blk_cell BK409.out 0).trans rfl
                              have hcz34_1 : w23.cell? ⟨gb409, 1, none⟩ = some (.slice Ao8 t403.length co8) := (blk_cell BK409.out 1).trans rfl
                              have hcz34_2 : w23.cell? ⟨gb409, 2, none⟩ = some (.slice Ao9 t406.length co9) := (blk_cell BK409.out 2).trans rfl
                              have hfz34_0 := blk_frozen BK409.out 0
                              have hfz34_1 := blk_frozen BK409.out 1
                              have hfz34_2 := blk_frozen BK409.out 2
                              obtain ⟨Ao35, co35, eo35⟩ := Kd.R_slice HO423.out
                              subst eo35
                              have p425 : 0 ≤ (0 : Int) := (by omega)
                              have q425 : 0 < (t417.length : Int) := of_decide_eq_true (by first | (with_reducible assumption) | assumption)
                              obtain ⟨ad425, e425, hx425_0⟩ := Kd.at_int (Kd.R_reads' HO419.out).2.2 0 p425 q425
                              cases e425
                              have qi425 : (0 < t417.length) = True := eq_true (by omega)
                              (try rw [show ((0 : Int)).toNat = 0 from rfl] at hx425_0)
                              (try rw [Addr.add_zero'] at hx425_0)
                              replace p425 := eq_true p425
                              replace q425 := eq_true q425
                              have p426 : 0 ≤ (1 : Int) := (by omega)
                              have q426 : 1 < (t417.length : Int) := of_decide_eq_true (by first | (with_reducible assumption) | assumption)
                              obtain ⟨ad426, e426, hx426_0⟩ := Kd.at_int (Kd.R_reads' HO419.out).2.2 1 p426 q426
                              obtain rfl : ad425 = ad426 := (by injection e426)
                              (try simp only [show (1 : Int).toNat = 1 from rfl, Nat.reduceMul, Nat.reduceEqDiff, Go.Addr.add, ↓reduceIte] at hx426_0)
                              have qi426 : (1 < t417.length) = True := eq_true (by omega)
                              (try rw [show ((1 : Int)).toNat = 1 from rfl] at hx426_0)
                              replace p426 := eq_true p426
                              replace q426 := eq_true q426
                              have p427 : 0 ≤ (2 : Int) := (by omega)
                              have q427 : 2 < (t417.length : Int) := of_decide_eq_true (by first | (with_reducible assumption) | assumption)
                              obtain ⟨ad427, e427, hx427_0⟩ := Kd.at_int (Kd.R_reads' HO419.out).2.2 2 p427 q427
                              obtain rfl : ad425 = ad427 := (by injection e427)
                              (try simp only [show (2 : Int).toNat = 2 from rfl, Nat.reduceMul, Nat.reduceEqDiff, Go.Addr.add, ↓reduceIte] at hx427_0)
                              have qi427 : (2 < t417.length) = True := eq_true (by omega)
                              (try rw [show ((2 : Int)).toNat = 2 from rfl] at hx427_0)
                              replace p427 := eq_true p427
                              replace q427 := eq_true q427
                              go_wp2
                              go_meet
                              case rel => exact ⟨_, (((rd t417 2) != 1)), (by first | rfl | (simp; done) | (simp [*]; done)), H', ⟨by have := HK1.out; first | omega | exact Nat.le_refl _⟩, ⟨by (with_reducible repeat (first | apply Kd.R_alloc | apply Kd.R_drewN | apply Kd.R_drew)); exact Kd.R_mono HO_5.out (fun _ hk => ⟨hk.1.2, ⟨hk.2, hk.1.1⟩⟩)⟩, ⟨by (with_reducible repeat (first | apply Kd.R_alloc | apply Kd.R_drewN | apply Kd.R_drew)); exact Kd.R_mono HO419.out (fun _ hk => ⟨hk.1.1.2, ⟨hk.2, hk.1.2⟩⟩)⟩, ⟨by (with_reducible repeat (first | apply Kd.R_alloc | apply Kd.R_drewN | apply Kd.R_drew)); exact Kd.R_mono HO423.out (fun _ hk => ⟨hk.1.1.2, ⟨hk.2, hk.1.2⟩⟩)⟩, ⟨by (with_reducible repeat (first | apply Kd.R_alloc | apply Kd.R_drewN | apply Kd.R_drew)); exact HO_410001.out⟩, ⟨by (with_reducible repeat (first | apply Kd.R_alloc | apply Kd.R_drewN | apply Kd.R_drew)); exact Kd.R_mono HO_410002.out (fun _ hk => ⟨hk.1.1, ⟨hk.1.2, hk.2⟩⟩)⟩, ⟨by (with_reducible repeat (first | refine blk_drewN ?_ _ | refine blk_drew ?_ | refine blk_alloc ?_ _)); exact BK409.out⟩, ⟨by repeat (first | (with_reducible first | exact HB.out | apply below_alloc | apply pw_below_drewN | apply below_drew1 | refine below_set ?_ GE409.out) | exact HB.out)⟩⟩
                            · rw [if_neg c32] at H
                              exact absurd H (by simp)
                          · rw [if_neg c31] at H
                            have c31b0 : ((rd t417 1) == 0) = false := beq_eq_false_iff_ne.mpr c31
                            have c31b1 : ((rd t417 1) != 0) = true := bne_iff_ne.mpr c31
                            have H' := Aside0.mk H
                            clear H
                            obtain ⟨Ao36, co36, eo36⟩ := Kd.R_slice HO419.out
                            subst eo36
                            have hcz37_0 : w23.cell? ⟨gb409, 0, none⟩ = some (.int .i64 t402) := (blk_cell BK409.out 0).trans rfl
                            have hcz37_1 : w23.cell? ⟨gb409, 1, none⟩ = some (.slice Ao8 t403.length co8) := (blk_cell BK409.out 1).trans rfl
                            have hcz37_2 : w23.cell? ⟨gb409, 2, none⟩ = some (.slice Ao9 t406.length co9) := (blk_cell BK409.out 2).trans rfl
                            have hfz37_0 := blk_frozen BK409.out 0
                            have hfz37_1 := blk_frozen BK409.out 1
                            have hfz37_2 := blk_frozen BK409.out 2
                            obtain ⟨Ao38, co38, eo38⟩ := Kd.R_slice HO423.out
                            subst eo38
                            have p425 : 0 ≤ (0 : Int) := (by omega)
                            have q425 : 0 < (t417.length : Int) := of_decide_eq_true (by first | (with_reducible assumption) | assumption)
                            obtain ⟨ad425, e425, hx425_0⟩ := Kd.at_int (Kd.R_reads' HO419.out).2.2 0 p425 q425
                            cases e425
                            have qi425 : (0 < t417.length) = True := eq_true (by omega)
                            (try rw [show ((0 : Int)).toNat = 0 from rfl] at hx425_0)
                            (try rw [Addr.add_zero'] at hx425_0)
                            replace p425 := eq_true p425
                            replace q425 := eq_true q425
                            have p426 : 0 ≤ (1 : Int) := (by omega)
                            have q426 : 1 < (t417.length : Int) := of_decide_eq_true (by first | (with_reducible assumption) | assumption)
                            obtain ⟨ad426, e426, hx426_0⟩ := Kd.at_int (Kd.R_reads' HO419.out).2.2 1 p426 q426
                            obtain rfl : ad425 = ad426 := (by injection e426)
                            (try simp only [show (1 : Int).toNat = 1 from rfl, Nat.reduceMul, Nat.reduceEqDiff, Go.Addr.add, ↓reduceIte] at hx426_0)
                            have qi426 : (1 < t417.length) = True := eq_true (by omega)
                            (try rw [show ((1 : Int)).toNat = 1 from rfl] at hx426_0)
                            replace p426 := eq_true p426
                            replace q426 := eq_true q426
                            go_wp2
                            go_meet
                            case rel => exact ⟨_, (true), (by first | rfl | (simp; done) | (simp [*]; done)), H', ⟨by have := HK1.out; first | omega | exact Nat.le_refl _⟩, ⟨by (with_reducible repeat (first | apply Kd.R_alloc | apply Kd.R_drewN | apply Kd.R_drew)); exact Kd.R_mono HO_5.out (fun _ hk => ⟨hk.1.2, ⟨hk.2, hk.1.1⟩⟩)⟩, ⟨by (with_reducible repeat (first | apply Kd.R_alloc | apply Kd.R_drewN | apply Kd.R_drew)); exact Kd.R_mono HO419.out (fun _ hk => ⟨hk.1.1.2, ⟨hk.2, hk.1.2⟩⟩)⟩, ⟨by (with_reducible repeat (first | apply Kd.R_alloc | apply Kd.R_drewN | apply Kd.R_drew)); exact Kd.R_mono HO423.out (fun _ hk => ⟨hk.1.1.2, ⟨hk.2, hk.1.2⟩⟩)⟩, ⟨by (with_reducible repeat (first | apply Kd.R_alloc | apply Kd.R_drewN | apply Kd.R_drew)); exact HO_410001.out⟩, ⟨by (with_reducible repeat (first | apply Kd.R_alloc | apply Kd.R_drewN | apply Kd.R_drew)); exact Kd.R_mono HO_410002.out (fun _ hk => ⟨hk.1.1, ⟨hk.1.2, hk.2⟩⟩)⟩, ⟨by (with_reducible repeat (first | refine blk_drewN ?_ _ | refine blk_drew ?_ | refine blk_alloc ?_ _)); exact BK409.out⟩, ⟨by repeat (first | (with_reducible first | exact HB.out | apply below_alloc | apply pw_below_drewN | apply below_drew1 | refine below_set ?_ GE409.out) | exact HB.out)⟩⟩
                        · rw [if_neg c30] at H
                          exact absurd H (by simp)
                      · rw [if_neg c29] at H
                        have c29b0 : ((rd t417 0) == (-1)) = false := beq_eq_false_iff_ne.mpr c29
                        have c29b1 : ((rd t417 0) != (-1)) = true := bne_iff_ne.mpr c29
                        have H' := Aside0.mk H
                        clear H
                        obtain ⟨Ao39, co39, eo39⟩ := Kd.R_slice HO419.out
                        subst eo39
                        have hcz40_0 : w23.cell? ⟨gb409, 0, none⟩ = some (.int .i64 t402) := (blk_cell BK409.out 0).trans rfl
                        have hcz40_1 : w23.cell? ⟨gb409, 1, none⟩ = some (.slice Ao8 t403.length co8) := (blk_cell BK409.out 1).trans rfl
                        have hcz40_2 : w23.cell? ⟨gb409, 2, none⟩ = some (.slice Ao9 t406.length co9) := (blk_cell BK409.out 2).trans rfl
                        have hfz40_0 := blk_frozen BK409.out 0
                        have hfz40_1 := blk_frozen BK409.out 1
                        have hfz40_2 := blk_frozen BK409.out 2
                        obtain ⟨Ao41, co41, eo41⟩ := Kd.R_slice HO423.out
                        subst eo41
                        have p425 : 0 ≤ (0 : Int) := (by omega)
                        have q425 : 0 < (t417.length : Int) := of_decide_eq_true (by first | (with_reducible assumption) | assumption)
                        obtain ⟨ad425, e425, hx425_0⟩ := Kd.at_int (Kd.R_reads' HO419.out).2.2 0 p425 q425
                        cases e425
                        have qi425 : (0 < t417.length) = True := eq_true (by omega)
                        (try rw [show ((0 : Int)).toNat = 0 from rfl] at hx425_0)
                        (try rw [Addr.add_zero'] at hx425_0)
                        replace p425 := eq_true p425
                        replace q425 := eq_true q425
                        go_wp2
                        go_meet
                        case rel => exact ⟨_, (true), (by first | rfl | (simp; done) | (simp [*]; done)), H', ⟨by have := HK1.out; first | omega | exact Nat.le_refl _⟩, ⟨by (with_reducible repeat (first | apply Kd.R_alloc | apply Kd.R_drewN | apply Kd.R_drew)); exact Kd.R_mono HO_5.out (fun _ hk => ⟨hk.1.2, ⟨hk.2, hk.1.1⟩⟩)⟩, ⟨by (with_reducible repeat (first | apply Kd.R_alloc | apply Kd.R_drewN | apply Kd.R_drew)); exact Kd.R_mono HO419.out (fun _ hk => ⟨hk.1.1.2, ⟨hk.2, hk.1.2⟩⟩)⟩, ⟨by (with_reducible repeat (first | apply Kd.R_alloc | apply Kd.R_drewN | apply Kd.R_drew)); exact Kd.R_mono HO423.out (fun _ hk => ⟨hk.1.1.2, ⟨hk.2, hk.1.2⟩⟩)⟩, ⟨by (with_reducible repeat (first | apply Kd.R_alloc | apply Kd.R_drewN | apply Kd.R_drew)); exact HO_410001.out⟩, ⟨by (with_reducible repeat (first | apply Kd.R_alloc | apply Kd.R_drewN | apply Kd.R_drew)); exact Kd.R_mono HO_410002.out (fun _ hk => ⟨hk.1.1, ⟨hk.1.2, hk.2⟩⟩)⟩, ⟨by (with_reducible repeat (first | refine blk_drewN ?_ _ | refine blk_drew ?_ | refine blk_alloc ?_ _)); exact BK409.out⟩, ⟨by repeat (first | (with_reducible first | exact HB.out | apply below_alloc | apply pw_below_drewN | apply below_drew1 | refine below_set ?_ GE409.out) | exact HB.out)⟩⟩
                    · rw [if_neg c28] at H
                      exact absurd H (by simp)
                  · rw [if_neg c27] at H
                    have c27b0 : ((t421.length : Int) == (t406.length : Int)) = false := beq_eq_false_iff_ne.mpr c27
                    have c27b1 : ((t421.length : Int) != (t406.length : Int)) = true := bne_iff_ne.mpr c27
                    have c27b2 : (t421.length == t406.length) = false := by first | simpa using c27 | (simp at c27 ⊢; omega)
                    have H' := Aside0.mk H
                    clear H
                    obtain ⟨Ao42, co42, eo42⟩ := Kd.R_slice HO419.out
                    subst eo42
                    have hcz43_0 : w23.cell? ⟨gb409, 0, none⟩ = some (.int .i64 t402) := (blk_cell BK409.out 0).trans rfl
                    have hcz43_1 : w23.cell? ⟨gb409, 1, none⟩ = some (.slice Ao8 t403.length co8) := (blk_cell BK409.out 1).trans rfl
                    have hcz43_2 : w23.cell? ⟨gb409, 2, none⟩ = some (.slice Ao9 t406.length co9) := (blk_cell BK409.out 2).trans rfl
                    have hfz43_0 := blk_frozen BK409.out 0
                    have hfz43_1 := blk_frozen BK409.out 1
                    have hfz43_2 := blk_frozen BK409.out 2
                    obtain ⟨Ao44, co44, eo44⟩ := Kd.R_slice HO423.out
                    subst eo44
                    go_wp2
                    go_meet
                    case rel => exact ⟨_, (true), (by first | rfl | (simp; done) | (simp [*]; done)), H', ⟨by have := HK1.out; first | omega | exact Nat.le_refl _⟩, ⟨by (with_reducible repeat (first | apply Kd.R_alloc | apply Kd.R_drewN | apply Kd.R_drew)); exact Kd.R_mono HO_5.out (fun _ hk => ⟨hk.1.2, ⟨hk.2, hk.1.1⟩⟩)⟩, ⟨by (with_reducible repeat (first | apply Kd.R_alloc | apply Kd.R_drewN | apply Kd.R_drew)); exact Kd.R_mono HO419.out (fun _ hk => ⟨hk.1.1.2, ⟨hk.2, hk.1.2⟩⟩)⟩, ⟨by (with_reducible repeat (first | apply Kd.R_alloc | apply Kd.R_drewN | apply Kd.R_drew)); exact Kd.R_mono HO423.out (fun _ hk => ⟨hk.1.1.2, ⟨hk.2, hk.1.2⟩⟩)⟩, ⟨by (with_reducible repeat (first | apply Kd.R_alloc | apply Kd.R_drewN | apply Kd.R_drew)); exact HO_410001.out⟩, ⟨by (with_reducible repeat (first | apply Kd.R_alloc | apply Kd.R_drewN | apply Kd.R_drew)); exact Kd.R_mono HO_410002.out (fun _ hk => ⟨hk.1.1, ⟨hk.1.2, hk.2⟩⟩)⟩, ⟨by (with_reducible repeat (first | refine blk_drewN ?_ _ | refine blk_drew ?_ | refine blk_alloc ?_ _)); exact BK409.out⟩, ⟨by repeat (first | (with_reducible first | exact HB.out | apply below_alloc | apply pw_below_drewN | apply below_drew1 | refine below_set ?_ GE409.out) | exact HB.out)⟩⟩
                · rw [if_neg c26] at H
                  have c26b0 : ((t417.length : Int) == (wrap64 ((wrap64 (3 + (Int.tmod t401 6))) + (t403.length : Int)))) = false := beq_eq_false_iff_ne.mpr c26
                  have c26b1 : ((t417.length : Int) != (wrap64 ((wrap64 (3 + (Int.tmod t401 6))) + (t403.length : Int)))) = true := bne_iff_ne.mpr c26
                  (first | rw [c26b0] | (simp only [i64_w, i32_w]; rw [c26b0]) | skip)
                  have H' := Aside0.mk H
                  clear H
                  obtain ⟨Ao45, co45, eo45⟩ := Kd.R_slice HO419.out
                  subst eo45
                  have hcz46_0 : w23.cell? ⟨gb409, 0, none⟩ = some (.int .i64 t402) := (blk_cell BK409.out 0).trans rfl
                  have hcz46_1 : w23.cell? ⟨gb409, 1, none⟩ = some (.slice Ao8 t403.length co8) := (blk_cell BK409.out 1).trans rfl
                  have hcz46_2 : w23.cell? ⟨gb409, 2, none⟩ = some (.slice Ao9 t406.length co9) := (blk_cell BK409.out 2).trans rfl
                  have hfz46_0 := blk_frozen BK409.out 0
                  have hfz46_1 := blk_frozen BK409.out 1
                  have hfz46_2 := blk_frozen BK409.out 2
                  go_wp2
                  go_meet
                  case rel => exact ⟨_, (true), (by first | rfl | (simp; done) | (simp [*]; done)), H', ⟨by have := HK1.out; first | omega | exact Nat.le_refl _⟩, ⟨by (with_reducible repeat (first | apply Kd.R_alloc | apply Kd.R_drewN | apply Kd.R_drew)); exact Kd.R_mono HO_5.out (fun _ hk => ⟨hk.1.2, ⟨hk.2, hk.1.1⟩⟩)⟩, ⟨by (with_reducible repeat (first | apply Kd.R_alloc | apply Kd.R_drewN | apply Kd.R_drew)); exact Kd.R_mono HO419.out (fun _ hk => ⟨hk.1.1.2, ⟨hk.2, hk.1.2⟩⟩)⟩, ⟨by (with_reducible repeat (first | apply Kd.R_alloc | apply Kd.R_drewN | apply Kd.R_drew)); exact Kd.R_mono HO423.out (fun _ hk => ⟨hk.1.1.2, ⟨hk.2, hk.1.2⟩⟩)⟩, ⟨by (with_reducible repeat (first | apply Kd.R_alloc | apply Kd.R_drewN | apply Kd.R_drew)); exact HO_410001.out⟩, ⟨by (with_reducible repeat (first | apply Kd.R_alloc | apply Kd.R_drewN | apply Kd.R_drew)); exact Kd.R_mono HO_410002.out (fun _ hk => ⟨hk.1.1, ⟨hk.1.2, hk.2⟩⟩)⟩, ⟨by (with_reducible repeat (first | refine blk_drewN ?_ _ | refine blk_drew ?_ | refine blk_alloc ?_ _)); exact BK409.out⟩, ⟨by repeat (first | (with_reducible first | exact HB.out | apply below_alloc | apply pw_below_drewN | apply below_drew1 | refine below_set ?_ GE409.out) | exact HB.out)⟩⟩
              · replace c25 := Bool.eq_false_iff.mpr c25
                subst c25
                have H1 : (laws_FnLines.j1 k1 (Int.tmod t401 6) x5_1 t417 t421 true t402 t403 t406) = some r := by rw [if_neg (show ¬ (false = true) by decide)] at H; exact H
                clear H
                have H := H1
                clear H1
                have H' := Aside0.mk H
                clear H
                go_wp2
                go_meet
                case rel => exact ⟨_, (true), (by first | rfl | (simp; done) | (simp [*]; done)), H', ⟨by have := HK1.out; first | omega | exact Nat.le_refl _⟩, ⟨by (with_reducible repeat (first | apply Kd.R_alloc | apply Kd.R_drewN | apply Kd.R_drew)); exact Kd.R_mono HO_5.out (fun _ hk => ⟨hk.1.2, ⟨hk.2, hk.1.1⟩⟩)⟩, ⟨by (with_reducible repeat (first | apply Kd.R_alloc | apply Kd.R_drewN | apply Kd.R_drew)); exact Kd.R_mono HO419.out (fun _ hk => ⟨hk.1.1.2, ⟨hk.2, hk.1.2⟩⟩)⟩, ⟨by (with_reducible repeat (first | apply Kd.R_alloc | apply Kd.R_drewN | apply Kd.R_drew)); exact Kd.R_mono HO423.out (fun _ hk => ⟨hk.1.1.2, ⟨hk.2, hk.1.2⟩⟩)⟩, ⟨by (with_reducible repeat (first | apply Kd.R_alloc | apply Kd.R_drewN | apply Kd.R_drew)); exact HO_410001.out⟩, ⟨by (with_reducible repeat (first | apply Kd.R_alloc | apply Kd.R_drewN | apply Kd.R_drew)); exact Kd.R_mono HO_410002.out (fun _ hk => ⟨hk.1.1, ⟨hk.1.2, hk.2⟩⟩)⟩, ⟨by (with_reducible repeat (first | refine blk_drewN ?_ _ | refine blk_drew ?_ | refine blk_alloc ?_ _)); exact BK409.out⟩, ⟨by repeat (first | (with_reducible first | exact HB.out | apply below_alloc | apply pw_below_drewN | apply below_drew1 | refine below_set ?_ GE409.out) | exact HB.out)⟩⟩
            · replace c24 := Bool.eq_false_iff.mpr c24
              subst c24
              have H1 : (laws_FnLines.j1 k1 (Int.tmod t401 6) x5_1 t417 t421 true t402 t403 t406) = some r := by rw [if_neg (show ¬ (false = true) by decide)] at H; exact H
              clear H
              have H := H1
              clear H1
              have H' := Aside0.mk H
              clear H
              go_wp2
              go_meet
              case rel => exact ⟨_, (true), (by first | rfl | (simp; done) | (simp [*]; done)), H', ⟨by have := HK1.out; first | omega | exact Nat.le_refl _⟩, ⟨by (with_reducible repeat (first | apply Kd.R_alloc | apply Kd.R_drewN | apply Kd.R_drew)); exact Kd.R_mono HO_5.out (fun _ hk => ⟨hk.1.2, ⟨hk.2, hk.1.1⟩⟩)⟩, ⟨by (with_reducible repeat (first | apply Kd.R_alloc | apply Kd.R_drewN | apply Kd.R_drew)); exact Kd.R_mono HO419.out (fun _ hk => ⟨hk.1.1.2, ⟨hk.2, hk.1.2⟩⟩)⟩, ⟨by (with_reducible repeat (first | apply Kd.R_alloc | apply Kd.R_drewN | apply Kd.R_drew)); exact Kd.R_mono HO423.out (fun _ hk => ⟨hk.1.1.2, ⟨hk.2, hk.1.2⟩⟩)⟩, ⟨by (with_reducible repeat (first | apply Kd.R_alloc | apply Kd.R_drewN | apply Kd.R_drew)); exact HO_410001.out⟩, ⟨by (with_reducible repeat (first | apply Kd.R_alloc | apply Kd.R_drewN | apply Kd.R_drew)); exact Kd.R_mono HO_410002.out (fun _ hk => ⟨hk.1.1, ⟨hk.1.2, hk.2⟩⟩)⟩, ⟨by (with_reducible repeat (first | refine blk_drewN ?_ _ | refine blk_drew ?_ | refine blk_alloc ?_ _)); exact BK409.out⟩, ⟨by repeat (first | (with_reducible first | exact HB.out | apply below_alloc | apply pw_below_drewN | apply below_drew1 | refine below_set ?_ GE409.out) | exact HB.out)⟩⟩
          case rest =>
            clear HC18
            try clear c1
            try clear c2
            try clear c2b0
            try clear c2b1
            try clear p2
            try clear c3
            try clear p4
            try clear q4
            try clear hx4
            try clear qi4
            try clear c6
            try clear p6
            try clear c12
            try clear c12b0
            try clear c14
            try clear c24
            try clear c25
            try clear c26
            try clear c26b0
            try clear c26b1
            try clear c27
            try clear c27b0
            try clear c27b1
            try clear c27b2
            try clear c28
            try clear c28b0
            try clear c28b1
            try clear c29
            try clear c29b0
            try clear c29b1
            try clear c30
            try clear c30b0
            try clear c30b1
            try clear c31
            try clear c31b0
            try clear c31b1
            try clear c32
            try clear c32b0
            try clear c32b1
            try clear p42
            try clear q42
            try clear hx42
            try clear qi42
            try clear hcz19_0
            try clear hcz19_1
            try clear hcz19_2
            try clear hcz22_0
            try clear hcz22_1
            try clear hcz22_2
            try clear hcz34_0
            try clear hcz34_1
            try clear hcz34_2
            try clear hcz37_0
            try clear hcz37_1
            try clear hcz37_2
            try clear hcz40_0
            try clear hcz40_1
            try clear hcz40_2
            try clear hcz43_0
            try clear hcz43_1
            try clear hcz43_2
            try clear hcz46_0
            try clear hcz46_1
            try clear hcz46_2
            try clear hcz7_0
            try clear hcz7_1
            try clear hcz7_2
            try clear hfz19_0
            try clear hfz19_1
            try clear hfz19_2
            try clear hfz22_0
            try clear hfz22_1
            try clear hfz22_2
            try clear hfz34_0
            try clear hfz34_1
            try clear hfz34_2
            try clear hfz37_0
            try clear hfz37_1
            try clear hfz37_2
            try clear hfz40_0
            try clear hfz40_1
            try clear hfz40_2
            try clear hfz43_0
            try clear hfz43_1
            try clear hfz43_2
            try clear hfz46_0
            try clear hfz46_1
            try clear hfz46_2
            try clear hfz7_0
            try clear hfz7_1
            try clear hfz7_2
            try clear hx425_0
            try clear hx426_0
            try clear hx427_0
            try clear p2
            try clear p425
            try clear p426
            try clear p427
            try clear q425
            try clear q426
            try clear q427
            obtain ⟨kq, x98_17, rfl, HA, HJ17, HO_5, HO_7, HO_9, HO_410001, HO_410002, BK409, HB⟩ := hcut
            cases kq with
            | zero => exact absurd HA.out (by simp [laws_FnLines.j1])
            | succ kj17 =>
              have H := HA.out
              clear HA
              simp only [laws_FnLines.j1] at H
              by_cases c47 : x98_17 = true
              · subst c47
                have H1 : (some false) = some r := by rw [if_pos rfl] at H; exact H
                clear H
                have H := H1
                clear H1
                exact absurd ((Option.some.inj H).trans HT.out) (by decide)
              · replace c47 := Bool.eq_false_iff.mpr c47
                subst c47
                have H1 : (laws_FnLines.l1 kj17 (Int.tmod t401 6) x5_1 t417 t421 (x5_1.length : Int) 0 t402 t403 t406) = some r := by rw [if_neg (show ¬ (false = true) by decide)] at H; exact H
                clear H
                have H := H1
                clear H1
                have H' := Aside0.mk H
                clear H
                go_wp2
                go_loopg [101] kj17 (fun kq v101 w' => ∃ (x101_3 : Int), v101 = .int .i64 x101_3 ∧ Aside0 (laws_FnLines.l1 kq (Int.tmod t401 6) x5_1 t417 t421 (x5_1.length : Int) x101_3 t402 t403 t406 = some r) ∧ Aside0 (kq ≤ kj17) ∧ Aside0 (Kd.R (Kd.int .i64) 3 w' w.heap.size (fun k_ => some k_ ≠ (v418 : Value).ownBlock ∧ some k_ ≠ (v422 : Value).ownBlock ∧ some k_ ≠ ((.slice Ao9 t406.length co9) : Value).ownBlock) (.slice Ao20 x5_1.length co20) x5_1) ∧ Aside0 (Kd.R (Kd.int .i64) 3 w' w.heap.size (fun k_ => some k_ ≠ ((.slice Ao20 x5_1.length co20) : Value).ownBlock ∧ some k_ ≠ (v422 : Value).ownBlock ∧ some k_ ≠ ((.slice Ao9 t406.length co9) : Value).ownBlock) v418 t417) ∧ Aside0 (Kd.R (Kd.int .i64) 3 w' w.heap.size (fun k_ => some k_ ≠ ((.slice Ao20 x5_1.length co20) : Value).ownBlock ∧ some k_ ≠ (v418 : Value).ownBlock ∧ some k_ ≠ ((.slice Ao9 t406.length co9) : Value).ownBlock) v422 t421) ∧ Aside0 (Kd.R k46 46 w' w.heap.size (fun _ => True) (.slice Ao8 t403.length co8) t403) ∧ Aside0 (Kd.R (Kd.int .i64) 3 w' w.heap.size (fun k_ => some k_ ≠ ((.slice Ao20 x5_1.length co20) : Value).ownBlock ∧ some k_ ≠ (v418 : Value).ownBlock ∧ some k_ ≠ (v422 : Value).ownBlock) (.slice Ao9 t406.length co9) t406) ∧ Aside0 (w'.heap[gb409]? = some (.cells #[.int .i64 t402, (.slice Ao8 t403.length co8), (.slice Ao9 t406.length co9)] 35 (0, 0))) ∧ Aside0 (Below w.heap.size w w'))
                case atStart => exact ⟨(0), (by first | rfl | (simp; done) | (simp [*]; done)), H', ⟨Nat.le_refl _⟩, ⟨by (with_reducible repeat (first | apply Kd.R_alloc | apply Kd.R_drewN | apply Kd.R_drew)); exact HO_5.out⟩, ⟨by (with_reducible repeat (first | apply Kd.R_alloc | apply Kd.R_drewN | apply Kd.R_drew)); exact HO_7.out⟩, ⟨by (with_reducible repeat (first | apply Kd.R_alloc | apply Kd.R_drewN | apply Kd.R_drew)); exact HO_9.out⟩, ⟨by (with_reducible repeat (first | apply Kd.R_alloc | apply Kd.R_drewN | apply Kd.R_drew)); exact HO_410001.out⟩, ⟨by (with_reducible repeat (first | apply Kd.R_alloc | apply Kd.R_drewN | apply Kd.R_drew)); exact HO_410002.out⟩, ⟨by (with_reducible repeat (first | refine blk_drewN ?_ _ | refine blk_drew ?_ | refine blk_alloc ?_ _)); exact BK409.out⟩, ⟨by repeat (first | (with_reducible first | exact HB.out | apply below_alloc | apply pw_below_drewN | apply below_drew1 | refine below_set ?_ GE409.out) | exact HB.out)⟩⟩
                case round =>
                  clear H'
                  try clear c1
                  try clear c2
                  try clear c2b0
                  try clear c2b1
                  try clear p2
                  try clear c3
                  try clear c4
                  try clear p4
                  try clear q4
                  try clear hx4
                  try clear qi4
                  try clear c6
                  try clear p6
                  try clear c12
                  try clear c12b0
                  try clear c14
                  try clear c24
                  try clear c25
                  try clear c26
                  try clear c26b0
                  try clear c26b1
                  try clear c27
                  try clear c27b0
                  try clear c27b1
                  try clear c27b2
                  try clear c28
                  try clear c28b0
                  try clear c28b1
                  try clear c29
                  try clear c29b0
                  try clear c29b1
                  try clear c30
                  try clear c30b0
                  try clear c30b1
                  try clear c31
                  try clear c31b0
                  try clear c31b1
                  try clear c32
                  try clear c32b0
                  try clear c32b1
                  try clear p42
                  try clear q42
                  try clear hx42
                  try clear qi42
                  try clear c47
                  try clear hcz19_0
                  try clear hcz19_1
                  try clear hcz19_2
                  try clear hcz22_0
                  try clear hcz22_1
                  try clear hcz22_2
                  try clear hcz34_0
                  try clear hcz34_1
                  try clear hcz34_2
                  try clear hcz37_0
                  try clear hcz37_1
                  try clear hcz37_2
                  try clear hcz40_0
                  try clear hcz40_1
                  try clear hcz40_2
                  try clear hcz43_0
                  try clear hcz43_1
                  try clear hcz43_2
                  try clear hcz46_0
                  try clear hcz46_1
                  try clear hcz46_2
                  try clear hcz7_0
                  try clear hcz7_1
                  try clear hcz7_2
                  try clear hfz19_0
                  try clear hfz19_1
                  try clear hfz19_2
                  try clear hfz22_0
                  try clear hfz22_1
                  try clear hfz22_2
                  try clear hfz34_0
                  try clear hfz34_1
                  try clear hfz34_2
                  try clear hfz37_0
                  try clear hfz37_1
                  try clear hfz37_2
                  try clear hfz40_0
                  try clear hfz40_1
                  try clear hfz40_2
                  try clear hfz43_0
                  try clear hfz43_1
                  try clear hfz43_2
                  try clear hfz46_0
                  try clear hfz46_1
                  try clear hfz46_2
                  try clear hfz7_0
                  try clear hfz7_1
                  try clear hfz7_2
                  try clear hx425_0
                  try clear hx426_0
                  try clear hx427_0
                  try clear p2
                  try clear p4
                  try clear p42
                  try clear p425
                  try clear p426
                  try clear p427
                  try clear p6
                  try clear q4
                  try clear q42
                  try clear q425
                  try clear q426
                  try clear q427
                  obtain ⟨x101_3, rfl, HA, HK3, HO_5, HO_7, HO_9, HO_410001, HO_410002, BK409, HB⟩ := hrel
                  cases gk with
                  | zero => exact absurd HA.out (by simp [laws_FnLines.l1])
                  | succ k3 =>
                    have H := HA.out
                    clear HA
                    simp only [laws_FnLines.l1] at H
                    by_cases c48 : x101_3 < (x5_1.length : Int)
                    · rw [if_pos c48] at H
                      have c48b0 : decide (x101_3 < (x5_1.length : Int)) = true := decide_eq_true c48
                      clear c48
                      obtain ⟨ji49, hji49⟩ : ∃ j_ : Int, (wrap64 (3 + x101_3)) = j_ := ⟨_, rfl⟩
                      replace H : (if 0 ≤ (ji49) then (if (ji49) < (t417.length : Int) then (if 0 ≤ x101_3 then (if x101_3 < (x5_1.length : Int) then (if (rd t417 (ji49)) = (rd x5_1 x101_3) then (laws_FnLines.l1 k3 (Int.tmod t401 6) x5_1 t417 t421 (x5_1.length : Int) (wrap64 (x101_3 + 1)) t402 t403 t406) else (some false)) else (none)) else (none)) else (none)) else (none)) = some r := by first | (rw [hji49] at H; exact H) | (simp only [hji49] at H ⊢; exact H)
                      have hji49w : (IntKind.i64.wrap (3 + x101_3)) = ji49 := (i64_w _).trans hji49
                      by_cases c50 : 0 ≤ (ji49)
                      · rw [if_pos c50] at H
                        have c50b0 : decide (0 ≤ (ji49)) = true := decide_eq_true c50
                        clear c50
                        by_cases c51 : (ji49) < (t417.length : Int)
                        · rw [if_pos c51] at H
                          have c51b0 : decide ((ji49) < (t417.length : Int)) = true := decide_eq_true c51
                          clear c51
                          by_cases c52 : 0 ≤ x101_3
                          · rw [if_pos c52] at H
                            have c52b0 : decide (0 ≤ x101_3) = true := decide_eq_true c52
                            clear c52
                            by_cases c53 : x101_3 < (x5_1.length : Int)
                            · rw [if_pos c53] at H
                              have c53b0 : decide (x101_3 < (x5_1.length : Int)) = true := decide_eq_true c53
                              clear c53
                              by_cases c54 : (rd t417 (ji49)) = (rd x5_1 x101_3)
                              · rw [if_pos c54] at H
                                have c54b0 : ((rd t417 (ji49)) == (rd x5_1 x101_3)) = true := beq_iff_eq.mpr c54
                                have c54b1 : ((rd t417 (ji49)) != (rd x5_1 x101_3)) = false := bne_eq_false_iff_eq.mpr c54
                                clear c54
                                have H' := Aside0.mk H
                                clear H
                                try go_wp2
                                have n0_ := Aside0.mk (Kd.R_drew HO_5.out)
                                have n1_ := Aside0.mk (Kd.R_drew HO_7.out)
                                have n2_ := Aside0.mk (Kd.R_drew HO_9.out)
                                have n3_ := Aside0.mk (Kd.R_drew HO_410001.out)
                                have n4_ := Aside0.mk (Kd.R_drew HO_410002.out)
                                have n5_ := Aside0.mk (blk_drew BK409.out)
                                have n6_ := Aside0.mk (below_drew1 HB.out)
                                clear HO_5
                                clear HO_7
                                clear HO_9
                                clear HO_410001
                                clear HO_410002
                                clear BK409
                                clear HB
                                have HO_5 := n0_
                                have HO_7 := n1_
                                have HO_9 := n2_
                                have HO_410001 := n3_
                                have HO_410002 := n4_
                                have BK409 := n5_
                                have HB := n6_
                                clear n0_ n1_ n2_ n3_ n4_ n5_ n6_
                                obtain ⟨Ao56, co56, eo56⟩ := Kd.R_slice HO_7.out
                                (first | subst eo56 | (injection eo56 with f1_ f2_ f3_; have f4_ := f1_.symm; have f5_ := f3_.symm; clear f1_ f2_ f3_; subst f4_; subst f5_))
                                have p428 : 0 ≤ ((ji49) : Int) := of_decide_eq_true (by first | (with_reducible assumption) | assumption)
                                have q428 : (ji49) < (t417.length : Int) := of_decide_eq_true (by first | (with_reducible assumption) | assumption)
                                obtain ⟨ad428, e428, hx428_0⟩ := Kd.at_int (Kd.R_reads' HO_7.out).2.2 (ji49) p428 q428
                                cases e428
                                replace p428 := eq_true p428
                                replace q428 := eq_true q428
                                have p429 : 0 ≤ (x101_3 : Int) := of_decide_eq_true (by first | (with_reducible assumption) | assumption)
                                have q429 : x101_3 < (x5_1.length : Int) := of_decide_eq_true (by first | (with_reducible assumption) | assumption)
                                obtain ⟨ad429, e429, hx429_0⟩ := Kd.at_int (Kd.R_reads' HO_5.out).2.2 x101_3 p429 q429
                                cases e429
                                replace p429 := eq_true p429
                                replace q429 := eq_true q429
                                refine start_ (n := 10) (S := fun w' => w'.cell? (ad428.add ((ji49)).toNat) = some (.int .i64 (rd t417 (ji49))) ∧ w'.cell? (ad429.add (x101_3).toNat) = some (.int .i64 (rd x5_1 x101_3))) (ds := []) #[false, false, false, false, false, false, false, false, false, false] (by kernel_rfl) rfl rfl ⟨hx428_0, hx429_0⟩ (fun hHeld => ?_); refine with_tabW laws_FnLines.tab17 laws_FnLines.bits17 (fun HT_ HW_ => ?_)
                                generalize wr.drew = w55 at HO_5 HO_7 HO_9 HO_410001 HO_410002 BK409 HB hx428_0 hx429_0 hHeld ⊢
                                refine pure_ (i := 0) (N := some 104) (v := ?_) (a' := ?_) #[true, false, false, false, false, false, false, false, false, false] rfl rfl (any_of HT_.out (by kernel_rfl)) (fun _ _ _ h => h) (Or.inl ⟨by rfl, ?_⟩) ?_ ?_
                                rotate_left
                                · intro w'
                                  go_simp
                                  with_reducible rfl
                                rotate_left
                                · simp only [Act.put, List.setIfInBounds_toArray, List.set_cons_zero, List.set_cons_succ, i64_w, i32_w]
                                  rfl
                                refine pure_ (i := 1) (N := some 105) (v := ?_) (a' := ?_) #[true, true, false, false, false, false, false, false, false, false] rfl rfl (any_of HT_.out (by kernel_rfl)) (fun _ _ _ h => h) (Or.inl ⟨by rfl, ?_⟩) ?_ ?_
                                rotate_left
                                · intro w'
                                  go_simp
                                  with_reducible rfl
                                rotate_left
                                · simp only [Act.put, List.setIfInBounds_toArray, List.set_cons_zero, List.set_cons_succ, i64_w, i32_w]
                                  rfl
                                refine pure_ (i := 2) (N := some 106) (v := ?_) (a' := ?_) #[true, true, true, false, false, false, false, false, false, false] rfl rfl (any_of HT_.out (by kernel_rfl)) (fun _ _ _ h => h) (Or.inl ⟨by rfl, ?_⟩) ?_ ?_
                                rotate_left
                                · intro w'
                                  go_simp
                                  with_reducible rfl
                                rotate_left
                                · simp only [Act.put, List.setIfInBounds_toArray, List.set_cons_zero, List.set_cons_succ, i64_w, i32_w]
                                  rfl
                                refine pure_ (i := 3) (N := some 107) (v := ?_) (a' := ?_) #[true, true, true, true, false, false, false, false, false, false] rfl rfl (any_of HT_.out (by kernel_rfl)) (fun _ _ _ h => h) (Or.inl ⟨by rfl, ?_⟩) ?_ ?_
                                rotate_left
                                · intro w'
                                  go_simp
                                  with_reducible rfl
                                rotate_left
                                · simp only [Act.put, List.setIfInBounds_toArray, List.set_cons_zero, List.set_cons_succ, i64_w, i32_w]
                                  rfl
                                refine pure_ (i := 5) (N := some 109) (v := ?_) (a' := ?_) #[true, true, true, true, false, true, false, false, false, false] rfl rfl (any_of HT_.out (by kernel_rfl)) (fun _ _ _ h => h) (Or.inl ⟨by rfl, ?_⟩) ?_ ?_
                                rotate_left
                                · intro w'
                                  go_simp
                                  with_reducible rfl
                                rotate_left
                                · simp only [Act.put, List.setIfInBounds_toArray, List.set_cons_zero, List.set_cons_succ, i64_w, i32_w]
                                  rfl
                                refine pure_ (i := 6) (N := some 110) (v := ?_) (a' := ?_) #[true, true, true, true, false, true, true, false, false, false] rfl rfl (any_of HT_.out (by kernel_rfl)) (fun _ _ _ h => h) (Or.inl ⟨by rfl, ?_⟩) ?_ ?_
                                rotate_left
                                · intro w'
                                  go_simp
                                  with_reducible rfl
                                rotate_left
                                · simp only [Act.put, List.setIfInBounds_toArray, List.set_cons_zero, List.set_cons_succ, i64_w, i32_w]
                                  rfl
                                refine pure_ (i := 7) (N := some 111) (v := ?_) (a' := ?_) #[true, true, true, true, false, true, true, true, false, false] rfl rfl (any_of HT_.out (by kernel_rfl)) (fun _ _ _ h => h) (Or.inl ⟨by rfl, ?_⟩) ?_ ?_
                                rotate_left
                                · intro w'
                                  go_simp
                                  with_reducible rfl
                                rotate_left
                                · simp only [Act.put, List.setIfInBounds_toArray, List.set_cons_zero, List.set_cons_succ, i64_w, i32_w]
                                  rfl
                                refine take_ (i := 4) (N := some 108) (v := ?_) (a' := ?_) #[true, true, true, true, true, true, true, true, false, false] rfl rfl (take_ofW HT_.out HW_.out (by kernel_rfl)) (fun _ _ _ h => h) (Or.inl ⟨by rfl, ?_⟩) hHeld ?_ ?_
                                rotate_left
                                · rintro w' ⟨s0, s1⟩
                                  go_simp
                                  with_reducible rfl
                                rotate_left
                                · simp only [Act.put, List.setIfInBounds_toArray, List.set_cons_zero, List.set_cons_succ, i64_w, i32_w]
                                  rfl
                                refine take_ (i := 8) (N := some 112) (v := ?_) (a' := ?_) #[true, true, true, true, true, true, true, true, true, false] rfl rfl (take_ofW HT_.out HW_.out (by kernel_rfl)) (fun _ _ _ h => h) (Or.inl ⟨by rfl, ?_⟩) hHeld ?_ ?_
                                rotate_left
                                · rintro w' ⟨s0, s1⟩
                                  go_simp
                                  with_reducible rfl
                                rotate_left
                                · simp only [Act.put, List.setIfInBounds_toArray, List.set_cons_zero, List.set_cons_succ, i64_w, i32_w]
                                  rfl
                                refine pure_ (i := 9) (N := some 113) (v := ?_) (a' := ?_) #[true, true, true, true, true, true, true, true, true, true] rfl rfl (any_of HT_.out (by kernel_rfl)) (fun _ _ _ h => h) (Or.inl ⟨by rfl, ?_⟩) ?_ ?_
                                rotate_left
                                · intro w'
                                  go_simp
                                  with_reducible rfl
                                rotate_left
                                · simp only [Act.put, List.setIfInBounds_toArray, List.set_cons_zero, List.set_cons_succ, i64_w, i32_w]
                                  rfl
                                refine done_ (done_of HT_.out (by kernel_rfl)) ?_
                                try go_wp2
                                go_roundg k3
                                case measure => have := HK1.out; have := HJ17.out; have := HK3.out; omega
                                case rel => exact ⟨(wrap64 (x101_3 + 1)), (by first | rfl | (simp; done) | (simp [*]; done)), H', ⟨by have := HK1.out; have := HJ17.out; have := HK3.out; omega⟩, ⟨by (with_reducible repeat (first | apply Kd.R_alloc | apply Kd.R_drewN | apply Kd.R_drew)); exact HO_5.out⟩, ⟨by (with_reducible repeat (first | apply Kd.R_alloc | apply Kd.R_drewN | apply Kd.R_drew)); exact HO_7.out⟩, ⟨by (with_reducible repeat (first | apply Kd.R_alloc | apply Kd.R_drewN | apply Kd.R_drew)); exact HO_9.out⟩, ⟨by (with_reducible repeat (first | apply Kd.R_alloc | apply Kd.R_drewN | apply Kd.R_drew)); exact HO_410001.out⟩, ⟨by (with_reducible repeat (first | apply Kd.R_alloc | apply Kd.R_drewN | apply Kd.R_drew)); exact HO_410002.out⟩, ⟨by (with_reducible repeat (first | refine blk_drewN ?_ _ | refine blk_drew ?_ | refine blk_alloc ?_ _)); exact BK409.out⟩, ⟨by repeat (first | (with_reducible first | exact HB.out | apply below_alloc | apply pw_below_drewN | apply below_drew1 | refine below_set ?_ GE409.out) | exact HB.out)⟩⟩
                              · rw [if_neg c54] at H
                                have c54b0 : ((rd t417 (ji49)) == (rd x5_1 x101_3)) = false := beq_eq_false_iff_ne.mpr c54
                                have c54b1 : ((rd t417 (ji49)) != (rd x5_1 x101_3)) = true := bne_iff_ne.mpr c54
                                exact absurd ((Option.some.inj H).trans HT.out) (by decide)
                            · rw [if_neg c53] at H
                              exact absurd H (by simp)
                          · rw [if_neg c52] at H
                            exact absurd H (by simp)
                        · rw [if_neg c51] at H
                          exact absurd H (by simp)
                      · rw [if_neg c50] at H
                        exact absurd H (by simp)
                    · rw [if_neg c48] at H
                      have c48b0 : decide (x101_3 < (x5_1.length : Int)) = false := decide_eq_false c48
                      clear c48
                      have H' := Aside0.mk H
                      clear H
                      have hcz57_0 : wr.cell? ⟨gb409, 0, none⟩ = some (.int .i64 t402) := (blk_cell BK409.out 0).trans rfl
                      have hcz57_1 : wr.cell? ⟨gb409, 1, none⟩ = some (.slice Ao8 t403.length co8) := (blk_cell BK409.out 1).trans rfl
                      have hcz57_2 : wr.cell? ⟨gb409, 2, none⟩ = some (.slice Ao9 t406.length co9) := (blk_cell BK409.out 2).trans rfl
                      have hfz57_0 := blk_frozen BK409.out 0
                      have hfz57_1 := blk_frozen BK409.out 1
                      have hfz57_2 := blk_frozen BK409.out 2
                      go_wp2
                      go_loopg [118] k3 (fun kq v118 w' => ∃ (x118_4 : Int), v118 = .int .i64 x118_4 ∧ Aside0 (laws_FnLines.l2 kq (Int.tmod t401 6) t417 t421 t403 (t403.length : Int) x118_4 t402 t403 t406 = some r) ∧ Aside0 (kq ≤ k3) ∧ Aside0 (Kd.R (Kd.int .i64) 3 w' w.heap.size (fun k_ => some k_ ≠ (v422 : Value).ownBlock ∧ some k_ ≠ ((.slice Ao9 t406.length co9) : Value).ownBlock) v418 t417) ∧ Aside0 (Kd.R (Kd.int .i64) 3 w' w.heap.size (fun k_ => some k_ ≠ (v418 : Value).ownBlock ∧ some k_ ≠ ((.slice Ao9 t406.length co9) : Value).ownBlock) v422 t421) ∧ Aside0 (Kd.R k46 46 w' w.heap.size (fun _ => True) (.slice Ao8 t403.length co8) t403) ∧ Aside0 (Kd.R k46 46 w' w.heap.size (fun _ => True) (.slice Ao8 t403.length co8) t403) ∧ Aside0 (Kd.R (Kd.int .i64) 3 w' w.heap.size (fun k_ => some k_ ≠ (v418 : Value).ownBlock ∧ some k_ ≠ (v422 : Value).ownBlock) (.slice Ao9 t406.length co9) t406) ∧ Aside0 (w'.heap[gb409]? = some (.cells #[.int .i64 t402, (.slice Ao8 t403.length co8), (.slice Ao9 t406.length co9)] 35 (0, 0))) ∧ Aside0 (Below w.heap.size w w'))
                      case atStart => exact ⟨(0), (by first | rfl | (simp; done) | (simp [*]; done)), H', ⟨Nat.le_refl _⟩, ⟨by (with_reducible repeat (first | apply Kd.R_alloc | apply Kd.R_drewN | apply Kd.R_drew)); exact Kd.R_mono HO_7.out (fun _ hk => ⟨hk.2.1, hk.2.2⟩)⟩, ⟨by (with_reducible repeat (first | apply Kd.R_alloc | apply Kd.R_drewN | apply Kd.R_drew)); exact Kd.R_mono HO_9.out (fun _ hk => ⟨hk.2.1, hk.2.2⟩)⟩, ⟨by (with_reducible repeat (first | apply Kd.R_alloc | apply Kd.R_drewN | apply Kd.R_drew)); exact HO_410001.out⟩, ⟨by (with_reducible repeat (first | apply Kd.R_alloc | apply Kd.R_drewN | apply Kd.R_drew)); exact HO_410001.out⟩, ⟨by (with_reducible repeat (first | apply Kd.R_alloc | apply Kd.R_drewN | apply Kd.R_drew)); exact Kd.R_mono HO_410002.out (fun _ hk => ⟨hk.2.1, hk.2.2⟩)⟩, ⟨by (with_reducible repeat (first | refine blk_drewN ?_ _ | refine blk_drew ?_ | refine blk_alloc ?_ _)); exact BK409.out⟩, ⟨by repeat (first | (with_reducible first | exact HB.out | apply below_alloc | apply pw_below_drewN | apply below_drew1 | refine below_set ?_ GE409.out) | exact HB.out)⟩⟩
                      case round =>
                        clear H'
                        try clear c1
                        try clear c2
                        try clear c2b0
                        try clear c2b1
                        try clear p2
                        try clear c3
                        try clear c4
                        try clear p4
                        try clear q4
                        try clear hx4
                        try clear qi4
                        try clear c5
                        try clear c6
                        try clear p6
                        try clear c12
                        try clear c12b0
                        try clear c14
                        try clear c24
                        try clear c25
                        try clear c26
                        try clear c26b0
                        try clear c26b1
                        try clear c27
                        try clear c27b0
                        try clear c27b1
                        try clear c27b2
                        try clear c28
                        try clear c28b0
                        try clear c28b1
                        try clear c29
                        try clear c29b0
                        try clear c29b1
                        try clear c30
                        try clear c30b0
                        try clear c30b1
                        try clear c31
                        try clear c31b0
                        try clear c31b1
                        try clear c32
                        try clear c32b0
                        try clear c32b1
                        try clear p42
                        try clear q42
                        try clear hx42
                        try clear qi42
                        try clear c47
                        try clear c48
                        try clear c48b0
                        try clear c50
                        try clear c50b0
                        try clear c51
                        try clear c51b0
                        try clear c52
                        try clear c52b0
                        try clear c53
                        try clear c53b0
                        try clear c54
                        try clear c54b0
                        try clear c54b1
                        try clear hcz19_0
                        try clear hcz19_1
                        try clear hcz19_2
                        try clear hcz22_0
                        try clear hcz22_1
                        try clear hcz22_2
                        try clear hcz34_0
                        try clear hcz34_1
                        try clear hcz34_2
                        try clear hcz37_0
                        try clear hcz37_1
                        try clear hcz37_2
                        try clear hcz40_0
                        try clear hcz40_1
                        try clear hcz40_2
                        try clear hcz43_0
                        try clear hcz43_1
                        try clear hcz43_2
                        try clear hcz46_0
                        try clear hcz46_1
                        try clear hcz46_2
                        try clear hcz57_0
                        try clear hcz57_1
                        try clear hcz57_2
                        try clear hcz7_0
                        try clear hcz7_1
                        try clear hcz7_2
                        try clear hfz19_0
                        try clear hfz19_1
                        try clear hfz19_2
                        try clear hfz22_0
                        try clear hfz22_1
                        try clear hfz22_2
                        try clear hfz34_0
                        try clear hfz34_1
                        try clear hfz34_2
                        try clear hfz37_0
                        try clear hfz37_1
                        try clear hfz37_2
                        try clear hfz40_0
                        try clear hfz40_1
                        try clear hfz40_2
                        try clear hfz43_0
                        try clear hfz43_1
                        try clear hfz43_2
                        try clear hfz46_0
                        try clear hfz46_1
                        try clear hfz46_2
                        try clear hfz57_0
                        try clear hfz57_1
                        try clear hfz57_2
                        try clear hfz7_0
                        try clear hfz7_1
                        try clear hfz7_2
                        try clear hx425_0
                        try clear hx426_0
                        try clear hx427_0
                        try clear hx428_0
                        try clear hx429_0
                        try clear p2
                        try clear p4
                        try clear p42
                        try clear p425
                        try clear p426
                        try clear p427
                        try clear p428
                        try clear p429
                        try clear p6
                        try clear q4
                        try clear q42
                        try clear q425
                        try clear q426
                        try clear q427
                        try clear q428
                        try clear q429
                        obtain ⟨x118_4, rfl, HA, HK4, HO_7, HO_9, HO_116, HO_410001, HO_410002, BK409, HB⟩ := hrel
                        cases gk with
                        | zero => exact absurd HA.out (by simp [laws_FnLines.l2])
                        | succ k4 =>
                          have H := HA.out
                          clear HA
                          simp only [laws_FnLines.l2] at H
                          by_cases c58 : x118_4 < (t403.length : Int)
                          · rw [if_pos c58] at H
                            have c58b0 : decide (x118_4 < (t403.length : Int)) = true := decide_eq_true c58
                            clear c58
                            by_cases c59 : 0 ≤ x118_4
                            · rw [if_pos c59] at H
                              have c59b0 : decide (0 ≤ x118_4) = true := decide_eq_true c59
                              clear c59
                              by_cases c60 : x118_4 < (t403.length : Int)
                              · rw [if_pos c60] at H
                                have c60b0 : decide (x118_4 < (t403.length : Int)) = true := decide_eq_true c60
                                clear c60
                                obtain ⟨ji61, hji61⟩ : ∃ j_ : Int, (wrap64 ((wrap64 (3 + (Int.tmod t401 6))) + x118_4)) = j_ := ⟨_, rfl⟩
                                replace H : (if 0 ≤ (ji61) then (if (ji61) < (t417.length : Int) then (if 0 ≤ ((rd_T46 t403 x118_4).f1) then (if ((rd_T46 t403 x118_4).f1) < (t417.length : Int) then (if 0 ≤ ((rd_T46 t403 x118_4).f2) then (if ((rd_T46 t403 x118_4).f2) < (t417.length : Int) then ((impl_LookUp.f k4 ((rd_T46 t403 x118_4).f0.f0) ((rd_T46 t403 x118_4).f0.f1) ((rd_T46 t403 x118_4).f0.f2) ((rd_T46 t403 x118_4).f0.f3) ((rd_T46 t403 x118_4).f0.f4) ((rd_T46 t403 x118_4).f0.f5) ((rd_T46 t403 x118_4).f0.f6) ((rd_T46 t403 x118_4).f0.f7) ((rd_T46 t403 x118_4).f0.f8) (rd t417 ((rd_T46 t403 x118_4).f1)) (rd t417 ((rd_T46 t403 x118_4).f2))).bind fun t435 => (if (rd t417 (ji61)) = t435 then (laws_FnLines.l2 k4 (Int.tmod t401 6) t417 t421 t403 (t403.length : Int) (wrap64 (x118_4 + 1)) t402 t403 t406) else (some false))) else (none)) else (none)) else (none)) else (none)) else (none)) else (none)) = some r := by first | (rw [hji61] at H; exact H) | (simp only [hji61] at H ⊢; exact H)
                                have hji61w : (IntKind.i64.wrap ((wrap64 (3 + (Int.tmod t401 6))) + x118_4)) = ji61 := (i64_w _).trans hji61
                                by_cases c62 : 0 ≤ (ji61)
                                · rw [if_pos c62] at H
                                  have c62b0 : decide (0 ≤ (ji61)) = true := decide_eq_true c62
                                  clear c62
                                  by_cases c63 : (ji61) < (t417.length : Int)
                                  · rw [if_pos c63] at H
                                    have c63b0 : decide ((ji61) < (t417.length : Int)) = true := decide_eq_true c63
                                    clear c63
                                    by_cases c64 : 0 ≤ ((rd_T46 t403 x118_4).f1)
                                    · rw [if_pos c64] at H
                                      have c64b0 : decide (0 ≤ ((rd_T46 t403 x118_4).f1)) = true := decide_eq_true c64
                                      clear c64
                                      by_cases c65 : ((rd_T46 t403 x118_4).f1) < (t417.length : Int)
                                      · rw [if_pos c65] at H
                                        have c65b0 : decide (((rd_T46 t403 x118_4).f1) < (t417.length : Int)) = true := decide_eq_true c65
                                        clear c65
                                        by_cases c66 : 0 ≤ ((rd_T46 t403 x118_4).f2)
                                        · rw [if_pos c66] at H
                                          have c66b0 : decide (0 ≤ ((rd_T46 t403 x118_4).f2)) = true := decide_eq_true c66
                                          clear c66
                                          by_cases c67 : ((rd_T46 t403 x118_4).f2) < (t417.length : Int)
                                          · rw [if_pos c67] at H
                                            have c67b0 : decide (((rd_T46 t403 x118_4).f2) < (t417.length : Int)) = true := decide_eq_true c67
                                            clear c67
                                            replace H := Option.bind_eq_some_iff.mp H
                                            obtain ⟨t435, A680, H⟩ := H
                                            replace H : (if (rd t417 (ji61)) = t435 then (laws_FnLines.l2 k4 (Int.tmod t401 6) t417 t421 t403 (t403.length : Int) (wrap64 (x118_4 + 1)) t402 t403 t406) else (some false)) = some r := H
                                            have A68 := Aside0.mk A680
                                            clear A680
                                            by_cases c69 : (rd t417 (ji61)) = t435
                                            · rw [if_pos c69] at H
                                              have c69b0 : ((rd t417 (ji61)) == t435) = true := beq_iff_eq.mpr c69
                                              have c69b1 : ((rd t417 (ji61)) != t435) = false := bne_eq_false_iff_eq.mpr c69
                                              clear c69
                                              have H' := Aside0.mk H
                                              clear H
                                              have p430 : 0 ≤ (x118_4 : Int) := of_decide_eq_true (by first | (with_reducible assumption) | assumption)
                                              have q430 : x118_4 < (t403.length : Int) := of_decide_eq_true (by first | (with_reducible assumption) | assumption)
                                              obtain ⟨ad430, e430, hx430_0, hx430_1, hx430_2, hx430_3, hx430_4, hx430_5, hx430_6, hx430_7, hx430_8, hx430_9, hx430_10⟩ := at_T46 (Kd.R_reads' HO_116.out).2.2 x118_4 p430 q430
                                              cases e430
                                              replace p430 := eq_true p430
                                              replace q430 := eq_true q430
                                              try go_wp2_with (first | ((with_reducible refine gate_dst (N := 13) rfl ?_); (try (refine gate_guard (by rfl) ?_; dsimp only)); refine box_event ?hg (N := 13) ?hd (cs := #[.int .i64 0, .int .i64 0, .int .i64 0, .int .i64 0, .int .i64 0, .int .i64 0, .int .i64 0, .int .i64 0, .int .i64 0, .int .i64 0, .int .i64 0]) (t := 46) ?hr ?_; (case hd => rfl); (case hg => rfl); (case hr => first | (go_simp; done) | (go_simp; rfl)); intro gb431 hg w70 hbox hb; have n0_ := Aside0.mk (Kd.R_below (by (with_reducible repeat (first | apply Kd.R_alloc | apply Kd.R_drewN | apply Kd.R_drew)); exact HO_7.out) hb); have n1_ := Aside0.mk (Kd.R_below (by (with_reducible repeat (first | apply Kd.R_alloc | apply Kd.R_drewN | apply Kd.R_drew)); exact HO_9.out) hb); have n2_ := Aside0.mk (Kd.R_below (Kd.R_elderB (by (with_reducible repeat (first | apply Kd.R_alloc | apply Kd.R_drewN | apply Kd.R_drew)); exact HO_116.out) gb431 (Nat.le_of_eq hg.symm)) hb); have n3_ := Aside0.mk (Kd.R_below (Kd.R_elderB (by (with_reducible repeat (first | apply Kd.R_alloc | apply Kd.R_drewN | apply Kd.R_drew)); exact HO_410001.out) gb431 (Nat.le_of_eq hg.symm)) hb); have n4_ := Aside0.mk (Kd.R_below (by (with_reducible repeat (first | apply Kd.R_alloc | apply Kd.R_drewN | apply Kd.R_drew)); exact HO_410002.out) hb); have n5_ := Aside0.mk (blk_below (g := gb409) (o := .cells #[.int .i64 t402, .slice (some ad430) t403.length co8, .slice Ao9 t406.length co9] 35 (0, 0)) (by (with_reducible repeat (first | refine blk_drewN ?_ _ | refine blk_drew ?_ | refine blk_alloc ?_ _)); exact BK409.out) hb); have n6_ := Aside0.mk (below_step (by repeat (first | (with_reducible first | exact HB.out | apply below_alloc | apply pw_below_drewN | apply below_drew1 | refine below_set ?_ GE409.out) | exact HB.out)) hb); have n7_ := Aside0.mk (hbox); have n8_ := Aside0.mk ((by rw [hg]; exact (below_size (by repeat (first | (with_reducible first | exact HB.out | apply below_alloc | apply pw_below_drewN | apply below_drew1 | refine below_set ?_ GE409.out) | exact HB.out))) : w.heap.size ≤ gb431)); have n9_ := Aside0.mk ((by rw [hg]; exact (below_size (by repeat (first | (with_reducible first | exact HB.out | apply below_alloc | apply pw_below_drewN | apply below_drew1 | refine below_set ?_ GE409.out) | exact HB.out))) : w.heap.size ≤ gb431)); have n10_ := Aside0.mk ((by rw [hg]; exact Nat.ne_of_lt (blk_lt (g := gb409) (o := .cells #[.int .i64 t402, .slice (some ad430) t403.length co8, .slice Ao9 t406.length co9] 35 (0, 0)) (by (with_reducible repeat (first | refine blk_drewN ?_ _ | refine blk_drew ?_ | refine blk_alloc ?_ _)); exact BK409.out)) : gb409 ≠ gb431)); have n11_ := Aside0.mk ((by rw [hg]; exact Nat.ne_of_gt (blk_lt (g := gb409) (o := .cells #[.int .i64 t402, .slice (some ad430) t403.length co8, .slice Ao9 t406.length co9] 35 (0, 0)) (by (with_reducible repeat (first | refine blk_drewN ?_ _ | refine blk_drew ?_ | refine blk_alloc ?_ _)); exact BK409.out)) : gb431 ≠ gb409)); clear HO_7; clear HO_9; clear HO_116; clear HO_410001; clear HO_410002; clear BK409; clear HB; have HO_7 := n0_; have HO_9 := n1_; have HO_116 := n2_; have HO_410001 := n3_; have HO_410002 := n4_; have BK409 := n5_; have HB := n6_; have BK431 := n7_; have GW431 := n8_; have GE431 := n9_; have NB409_431 := n10_; have NB431_409 := n11_; clear n0_ n1_ n2_ n3_ n4_ n5_ n6_ n7_ n8_ n9_ n10_ n11_; clear hb hbox hg; have hnb71 := NB431_409.out; have hnc71 := NB409_431.out; have hcz72_0 : w70.cell? ⟨gb431, 0, none⟩ = some (.int .i64 0) := (blk_cell BK431.out 0).trans rfl; have hcz72_1 : w70.cell? ⟨gb431, 1, none⟩ = some (.int .i64 0) := (blk_cell BK431.out 1).trans rfl; have hcz72_2 : w70.cell? ⟨gb431, 2, none⟩ = some (.int .i64 0) := (blk_cell BK431.out 2).trans rfl; have hcz72_3 : w70.cell? ⟨gb431, 3, none⟩ = some (.int .i64 0) := (blk_cell BK431.out 3).trans rfl; have hcz72_4 : w70.cell? ⟨gb431, 4, none⟩ = some (.int .i64 0) := (blk_cell BK431.out 4).trans rfl; have hcz72_5 : w70.cell? ⟨gb431, 5, none⟩ = some (.int .i64 0) := (blk_cell BK431.out 5).trans rfl; have hcz72_6 : w70.cell? ⟨gb431, 6, none⟩ = some (.int .i64 0) := (blk_cell BK431.out 6).trans rfl; have hcz72_7 : w70.cell? ⟨gb431, 7, none⟩ = some (.int .i64 0) := (blk_cell BK431.out 7).trans rfl; have hcz72_8 : w70.cell? ⟨gb431, 8, none⟩ = some (.int .i64 0) := (blk_cell BK431.out 8).trans rfl; have hcz72_9 : w70.cell? ⟨gb431, 9, none⟩ = some (.int .i64 0) := (blk_cell BK431.out 9).trans rfl; have hcz72_10 : w70.cell? ⟨gb431, 10, none⟩ = some (.int .i64 0) := (blk_cell BK431.out 10).trans rfl; have hfz72_0 := blk_frozen BK431.out 0; have hfz72_1 := blk_frozen BK431.out 1; have hfz72_2 := blk_frozen BK431.out 2; have hfz72_3 := blk_frozen BK431.out 3; have hfz72_4 := blk_frozen BK431.out 4; have hfz72_5 := blk_frozen BK431.out 5; have hfz72_6 := blk_frozen BK431.out 6; have hfz72_7 := blk_frozen BK431.out 7; have hfz72_8 := blk_frozen BK431.out 8; have hfz72_9 := blk_frozen BK431.out 9; have hfz72_10 := blk_frozen BK431.out 10))
                                              have n0_ : Aside0 (Kd.R (Kd.int .i64) 3 (((((((((((w70.setCell ⟨gb431, 0, none⟩ (.int .i64 ((rd_T46 t403 x118_4).f0.f0))).setCell ⟨gb431, 1, none⟩ (.int .i64 ((rd_T46 t403 x118_4).f0.f1))).setCell ⟨gb431, 2, none⟩ (.int .i64 ((rd_T46 t403 x118_4).f0.f2))).setCell ⟨gb431, 3, none⟩ (.int .i64 ((rd_T46 t403 x118_4).f0.f3))).setCell ⟨gb431, 4, none⟩ (.int .i64 ((rd_T46 t403 x118_4).f0.f4))).setCell ⟨gb431, 5, none⟩ (.int .i64 ((rd_T46 t403 x118_4).f0.f5))).setCell ⟨gb431, 6, none⟩ (.int .i64 ((rd_T46 t403 x118_4).f0.f6))).setCell ⟨gb431, 7, none⟩ (.int .i64 ((rd_T46 t403 x118_4).f0.f7))).setCell ⟨gb431, 8, none⟩ (.int .i64 ((rd_T46 t403 x118_4).f0.f8))).setCell ⟨gb431, 9, none⟩ (.int .i64 ((rd_T46 t403 x118_4).f1))).setCell ⟨gb431, 10, none⟩ (.int .i64 ((rd_T46 t403 x118_4).f2))) w.heap.size (fun k_ => some k_ ≠ (v422 : Value).ownBlock ∧ some k_ ≠ (.slice Ao9 t406.length co9 : Value).ownBlock) v418 t417) := ⟨by (with_reducible repeat (first | apply Kd.R_alloc | apply Kd.R_drewN | apply Kd.R_drew)); exact Kd.R_mono (Kd.R_far (p := ⟨gb431, 10, none⟩) (Kd.R_far (p := ⟨gb431, 9, none⟩) (Kd.R_far (p := ⟨gb431, 8, none⟩) (Kd.R_far (p := ⟨gb431, 7, none⟩) (Kd.R_far (p := ⟨gb431, 6, none⟩) (Kd.R_far (p := ⟨gb431, 5, none⟩) (Kd.R_far (p := ⟨gb431, 4, none⟩) (Kd.R_far (p := ⟨gb431, 3, none⟩) (Kd.R_far (p := ⟨gb431, 2, none⟩) (Kd.R_far (p := ⟨gb431, 1, none⟩) (Kd.R_far (p := ⟨gb431, 0, none⟩) (Kd.R_types HO_7.out BK431.out (by decide)) (fun _ hk => hk.2) (.int .i64 ((rd_T46 t403 x118_4).f0.f0))) (fun _ hk => hk.2) (.int .i64 ((rd_T46 t403 x118_4).f0.f1))) (fun _ hk => hk.2) (.int .i64 ((rd_T46 t403 x118_4).f0.f2))) (fun _ hk => hk.2) (.int .i64 ((rd_T46 t403 x118_4).f0.f3))) (fun _ hk => hk.2) (.int .i64 ((rd_T46 t403 x118_4).f0.f4))) (fun _ hk => hk.2) (.int .i64 ((rd_T46 t403 x118_4).f0.f5))) (fun _ hk => hk.2) (.int .i64 ((rd_T46 t403 x118_4).f0.f6))) (fun _ hk => hk.2) (.int .i64 ((rd_T46 t403 x118_4).f0.f7))) (fun _ hk => hk.2) (.int .i64 ((rd_T46 t403 x118_4).f0.f8))) (fun _ hk => hk.2) (.int .i64 ((rd_T46 t403 x118_4).f1))) (fun _ hk => hk.2) (.int .i64 ((rd_T46 t403 x118_4).f2))) (fun _ hk => ⟨hk.1.1, hk.1.2⟩)⟩
                                              have n1_ : Aside0 (Kd.R (Kd.int .i64) 3 (((((((((((w70.setCell ⟨gb431, 0, none⟩ (.int .i64 ((rd_T46 t403 x118_4).f0.f0))).setCell ⟨gb431, 1, none⟩ (.int .i64 ((rd_T46 t403 x118_4).f0.f1))).setCell ⟨gb431, 2, none⟩ (.int .i64 ((rd_T46 t403 x118_4).f0.f2))).setCell ⟨gb431, 3, none⟩ (.int .i64 ((rd_T46 t403 x118_4).f0.f3))).setCell ⟨gb431, 4, none⟩ (.int .i64 ((rd_T46 t403 x118_4).f0.f4))).setCell ⟨gb431, 5, none⟩ (.int .i64 ((rd_T46 t403 x118_4).f0.f5))).setCell ⟨gb431, 6, none⟩ (.int .i64 ((rd_T46 t403 x118_4).f0.f6))).setCell ⟨gb431, 7, none⟩ (.int .i64 ((rd_T46 t403 x118_4).f0.f7))).setCell ⟨gb431, 8, none⟩ (.int .i64 ((rd_T46 t403 x118_4).f0.f8))).setCell ⟨gb431, 9, none⟩ (.int .i64 ((rd_T46 t403 x118_4).f1))).setCell ⟨gb431, 10, none⟩ (.int .i64 ((rd_T46 t403 x118_4).f2))) w.heap.size (fun k_ => some k_ ≠ (v418 : Value).ownBlock ∧ some k_ ≠ (.slice Ao9 t406.length co9 : Value).ownBlock) v422 t421) := ⟨by (with_reducible repeat (first | apply Kd.R_alloc | apply Kd.R_drewN | apply Kd.R_drew)); exact Kd.R_mono (Kd.R_far (p := ⟨gb431, 10, none⟩) (Kd.R_far (p := ⟨gb431, 9, none⟩) (Kd.R_far (p := ⟨gb431, 8, none⟩) (Kd.R_far (p := ⟨gb431, 7, none⟩) (Kd.R_far (p := ⟨gb431, 6, none⟩) (Kd.R_far (p := ⟨gb431, 5, none⟩) (Kd.R_far (p := ⟨gb431, 4, none⟩) (Kd.R_far (p := ⟨gb431, 3, none⟩) (Kd.R_far (p := ⟨gb431, 2, none⟩) (Kd.R_far (p := ⟨gb431, 1, none⟩) (Kd.R_far (p := ⟨gb431, 0, none⟩) (Kd.R_types HO_9.out BK431.out (by decide)) (fun _ hk => hk.2) (.int .i64 ((rd_T46 t403 x118_4).f0.f0))) (fun _ hk => hk.2) (.int .i64 ((rd_T46 t403 x118_4).f0.f1))) (fun _ hk => hk.2) (.int .i64 ((rd_T46 t403 x118_4).f0.f2))) (fun _ hk => hk.2) (.int .i64 ((rd_T46 t403 x118_4).f0.f3))) (fun _ hk => hk.2) (.int .i64 ((rd_T46 t403 x118_4).f0.f4))) (fun _ hk => hk.2) (.int .i64 ((rd_T46 t403 x118_4).f0.f5))) (fun _ hk => hk.2) (.int .i64 ((rd_T46 t403 x118_4).f0.f6))) (fun _ hk => hk.2) (.int .i64 ((rd_T46 t403 x118_4).f0.f7))) (fun _ hk => hk.2) (.int .i64 ((rd_T46 t403 x118_4).f0.f8))) (fun _ hk => hk.2) (.int .i64 ((rd_T46 t403 x118_4).f1))) (fun _ hk => hk.2) (.int .i64 ((rd_T46 t403 x118_4).f2))) (fun _ hk => ⟨hk.1.1, hk.1.2⟩)⟩
                                              have n2_ : Aside0 (Kd.R k46 46 (((((((((((w70.setCell ⟨gb431, 0, none⟩ (.int .i64 ((rd_T46 t403 x118_4).f0.f0))).setCell ⟨gb431, 1, none⟩ (.int .i64 ((rd_T46 t403 x118_4).f0.f1))).setCell ⟨gb431, 2, none⟩ (.int .i64 ((rd_T46 t403 x118_4).f0.f2))).setCell ⟨gb431, 3, none⟩ (.int .i64 ((rd_T46 t403 x118_4).f0.f3))).setCell ⟨gb431, 4, none⟩ (.int .i64 ((rd_T46 t403 x118_4).f0.f4))).setCell ⟨gb431, 5, none⟩ (.int .i64 ((rd_T46 t403 x118_4).f0.f5))).setCell ⟨gb431, 6, none⟩ (.int .i64 ((rd_T46 t403 x118_4).f0.f6))).setCell ⟨gb431, 7, none⟩ (.int .i64 ((rd_T46 t403 x118_4).f0.f7))).setCell ⟨gb431, 8, none⟩ (.int .i64 ((rd_T46 t403 x118_4).f0.f8))).setCell ⟨gb431, 9, none⟩ (.int .i64 ((rd_T46 t403 x118_4).f1))).setCell ⟨gb431, 10, none⟩ (.int .i64 ((rd_T46 t403 x118_4).f2))) w.heap.size (fun k_ => k_ ≠ gb431) (.slice (some ad430) t403.length co8) t403) := ⟨by (with_reducible repeat (first | apply Kd.R_alloc | apply Kd.R_drewN | apply Kd.R_drew)); exact Kd.R_mono (Kd.R_far (p := ⟨gb431, 10, none⟩) (Kd.R_far (p := ⟨gb431, 9, none⟩) (Kd.R_far (p := ⟨gb431, 8, none⟩) (Kd.R_far (p := ⟨gb431, 7, none⟩) (Kd.R_far (p := ⟨gb431, 6, none⟩) (Kd.R_far (p := ⟨gb431, 5, none⟩) (Kd.R_far (p := ⟨gb431, 4, none⟩) (Kd.R_far (p := ⟨gb431, 3, none⟩) (Kd.R_far (p := ⟨gb431, 2, none⟩) (Kd.R_far (p := ⟨gb431, 1, none⟩) (Kd.R_far (p := ⟨gb431, 0, none⟩) (Kd.R_mono HO_116.out (fun k_ hk => (⟨hk, hk.2⟩ : _ ∧ k_ ≠ gb431))) (fun _ hk => hk.2) (.int .i64 ((rd_T46 t403 x118_4).f0.f0))) (fun _ hk => hk.2) (.int .i64 ((rd_T46 t403 x118_4).f0.f1))) (fun _ hk => hk.2) (.int .i64 ((rd_T46 t403 x118_4).f0.f2))) (fun _ hk => hk.2) (.int .i64 ((rd_T46 t403 x118_4).f0.f3))) (fun _ hk => hk.2) (.int .i64 ((rd_T46 t403 x118_4).f0.f4))) (fun _ hk => hk.2) (.int .i64 ((rd_T46 t403 x118_4).f0.f5))) (fun _ hk => hk.2) (.int .i64 ((rd_T46 t403 x118_4).f0.f6))) (fun _ hk => hk.2) (.int .i64 ((rd_T46 t403 x118_4).f0.f7))) (fun _ hk => hk.2) (.int .i64 ((rd_T46 t403 x118_4).f0.f8))) (fun _ hk => hk.2) (.int .i64 ((rd_T46 t403 x118_4).f1))) (fun _ hk => hk.2) (.int .i64 ((rd_T46 t403 x118_4).f2))) (fun _ hk => hk.1.2)⟩
                                              have n3_ : Aside0 (Kd.R k46 46 (((((((((((w70.setCell ⟨gb431, 0, none⟩ (.int .i64 ((rd_T46 t403 x118_4).f0.f0))).setCell ⟨gb431, 1, none⟩ (.int .i64 ((rd_T46 t403 x118_4).f0.f1))).setCell ⟨gb431, 2, none⟩ (.int .i64 ((rd_T46 t403 x118_4).f0.f2))).setCell ⟨gb431, 3, none⟩ (.int .i64 ((rd_T46 t403 x118_4).f0.f3))).setCell ⟨gb431, 4, none⟩ (.int .i64 ((rd_T46 t403 x118_4).f0.f4))).setCell ⟨gb431, 5, none⟩ (.int .i64 ((rd_T46 t403 x118_4).f0.f5))).setCell ⟨gb431, 6, none⟩ (.int .i64 ((rd_T46 t403 x118_4).f0.f6))).setCell ⟨gb431, 7, none⟩ (.int .i64 ((rd_T46 t403 x118_4).f0.f7))).setCell ⟨gb431, 8, none⟩ (.int .i64 ((rd_T46 t403 x118_4).f0.f8))).setCell ⟨gb431, 9, none⟩ (.int .i64 ((rd_T46 t403 x118_4).f1))).setCell ⟨gb431, 10, none⟩ (.int .i64 ((rd_T46 t403 x118_4).f2))) w.heap.size (fun k_ => k_ ≠ gb431) (.slice (some ad430) t403.length co8) t403) := ⟨by (with_reducible repeat (first | apply Kd.R_alloc | apply Kd.R_drewN | apply Kd.R_drew)); exact Kd.R_mono (Kd.R_far (p := ⟨gb431, 10, none⟩) (Kd.R_far (p := ⟨gb431, 9, none⟩) (Kd.R_far (p := ⟨gb431, 8, none⟩) (Kd.R_far (p := ⟨gb431, 7, none⟩) (Kd.R_far (p := ⟨gb431, 6, none⟩) (Kd.R_far (p := ⟨gb431, 5, none⟩) (Kd.R_far (p := ⟨gb431, 4, none⟩) (Kd.R_far (p := ⟨gb431, 3, none⟩) (Kd.R_far (p := ⟨gb431, 2, none⟩) (Kd.R_far (p := ⟨gb431, 1, none⟩) (Kd.R_far (p := ⟨gb431, 0, none⟩) (Kd.R_mono HO_410001.out (fun k_ hk => (⟨hk, hk.2⟩ : _ ∧ k_ ≠ gb431))) (fun _ hk => hk.2) (.int .i64 ((rd_T46 t403 x118_4).f0.f0))) (fun _ hk => hk.2) (.int .i64 ((rd_T46 t403 x118_4).f0.f1))) (fun _ hk => hk.2) (.int .i64 ((rd_T46 t403 x118_4).f0.f2))) (fun _ hk => hk.2) (.int .i64 ((rd_T46 t403 x118_4).f0.f3))) (fun _ hk => hk.2) (.int .i64 ((rd_T46 t403 x118_4).f0.f4))) (fun _ hk => hk.2) (.int .i64 ((rd_T46 t403 x118_4).f0.f5))) (fun _ hk => hk.2) (.int .i64 ((rd_T46 t403 x118_4).f0.f6))) (fun _ hk => hk.2) (.int .i64 ((rd_T46 t403 x118_4).f0.f7))) (fun _ hk => hk.2) (.int .i64 ((rd_T46 t403 x118_4).f0.f8))) (fun _ hk => hk.2) (.int .i64 ((rd_T46 t403 x118_4).f1))) (fun _ hk => hk.2) (.int .i64 ((rd_T46 t403 x118_4).f2))) (fun _ hk => hk.1.2)⟩
                                              have n4_ : Aside0 (Kd.R (Kd.int .i64) 3 (((((((((((w70.setCell ⟨gb431, 0, none⟩ (.int .i64 ((rd_T46 t403 x118_4).f0.f0))).setCell ⟨gb431, 1, none⟩ (.int .i64 ((rd_T46 t403 x118_4).f0.f1))).setCell ⟨gb431, 2, none⟩ (.int .i64 ((rd_T46 t403 x118_4).f0.f2))).setCell ⟨gb431, 3, none⟩ (.int .i64 ((rd_T46 t403 x118_4).f0.f3))).setCell ⟨gb431, 4, none⟩ (.int .i64 ((rd_T46 t403 x118_4).f0.f4))).setCell ⟨gb431, 5, none⟩ (.int .i64 ((rd_T46 t403 x118_4).f0.f5))).setCell ⟨gb431, 6, none⟩ (.int .i64 ((rd_T46 t403 x118_4).f0.f6))).setCell ⟨gb431, 7, none⟩ (.int .i64 ((rd_T46 t403 x118_4).f0.f7))).setCell ⟨gb431, 8, none⟩ (.int .i64 ((rd_T46 t403 x118_4).f0.f8))).setCell ⟨gb431, 9, none⟩ (.int .i64 ((rd_T46 t403 x118_4).f1))).setCell ⟨gb431, 10, none⟩ (.int .i64 ((rd_T46 t403 x118_4).f2))) w.heap.size (fun k_ => some k_ ≠ (v418 : Value).ownBlock ∧ some k_ ≠ (v422 : Value).ownBlock) (.slice Ao9 t406.length co9) t406) := ⟨by (with_reducible repeat (first | apply Kd.R_alloc | apply Kd.R_drewN | apply Kd.R_drew)); exact Kd.R_mono (Kd.R_far (p := ⟨gb431, 10, none⟩) (Kd.R_far (p := ⟨gb431, 9, none⟩) (Kd.R_far (p := ⟨gb431, 8, none⟩) (Kd.R_far (p := ⟨gb431, 7, none⟩) (Kd.R_far (p := ⟨gb431, 6, none⟩) (Kd.R_far (p := ⟨gb431, 5, none⟩) (Kd.R_far (p := ⟨gb431, 4, none⟩) (Kd.R_far (p := ⟨gb431, 3, none⟩) (Kd.R_far (p := ⟨gb431, 2, none⟩) (Kd.R_far (p := ⟨gb431, 1, none⟩) (Kd.R_far (p := ⟨gb431, 0, none⟩) (Kd.R_types HO_410002.out BK431.out (by decide)) (fun _ hk => hk.2) (.int .i64 ((rd_T46 t403 x118_4).f0.f0))) (fun _ hk => hk.2) (.int .i64 ((rd_T46 t403 x118_4).f0.f1))) (fun _ hk => hk.2) (.int .i64 ((rd_T46 t403 x118_4).f0.f2))) (fun _ hk => hk.2) (.int .i64 ((rd_T46 t403 x118_4).f0.f3))) (fun _ hk => hk.2) (.int .i64 ((rd_T46 t403 x118_4).f0.f4))) (fun _ hk => hk.2) (.int .i64 ((rd_T46 t403 x118_4).f0.f5))) (fun _ hk => hk.2) (.int .i64 ((rd_T46 t403 x118_4).f0.f6))) (fun _ hk => hk.2) (.int .i64 ((rd_T46 t403 x118_4).f0.f7))) (fun _ hk => hk.2) (.int .i64 ((rd_T46 t403 x118_4).f0.f8))) (fun _ hk => hk.2) (.int .i64 ((rd_T46 t403 x118_4).f1))) (fun _ hk => hk.2) (.int .i64 ((rd_T46 t403 x118_4).f2))) (fun _ hk => ⟨hk.1.1, hk.1.2⟩)⟩
                                              have n5_ : Aside0 ((((((((((((w70.setCell ⟨gb431, 0, none⟩ (.int .i64 ((rd_T46 t403 x118_4).f0.f0))).setCell ⟨gb431, 1, none⟩ (.int .i64 ((rd_T46 t403 x118_4).f0.f1))).setCell ⟨gb431, 2, none⟩ (.int .i64 ((rd_T46 t403 x118_4).f0.f2))).setCell ⟨gb431, 3, none⟩ (.int .i64 ((rd_T46 t403 x118_4).f0.f3))).setCell ⟨gb431, 4, none⟩ (.int .i64 ((rd_T46 t403 x118_4).f0.f4))).setCell ⟨gb431, 5, none⟩ (.int .i64 ((rd_T46 t403 x118_4).f0.f5))).setCell ⟨gb431, 6, none⟩ (.int .i64 ((rd_T46 t403 x118_4).f0.f6))).setCell ⟨gb431, 7, none⟩ (.int .i64 ((rd_T46 t403 x118_4).f0.f7))).setCell ⟨gb431, 8, none⟩ (.int .i64 ((rd_T46 t403 x118_4).f0.f8))).setCell ⟨gb431, 9, none⟩ (.int .i64 ((rd_T46 t403 x118_4).f1))).setCell ⟨gb431, 10, none⟩ (.int .i64 ((rd_T46 t403 x118_4).f2))).heap[gb409]? = some (.cells #[.int .i64 t402, .slice (some ad430) t403.length co8, .slice Ao9 t406.length co9] 35 (0, 0))) := ⟨by (with_reducible repeat (first | refine blk_drewN ?_ _ | refine blk_drew ?_ | refine blk_alloc ?_ _)); refine blk_far ?_ NB409_431.out _; (with_reducible repeat (first | refine blk_drewN ?_ _ | refine blk_drew ?_ | refine blk_alloc ?_ _)); refine blk_far ?_ NB409_431.out _; (with_reducible repeat (first | refine blk_drewN ?_ _ | refine blk_drew ?_ | refine blk_alloc ?_ _)); refine blk_far ?_ NB409_431.out _; (with_reducible repeat (first | refine blk_drewN ?_ _ | refine blk_drew ?_ | refine blk_alloc ?_ _)); refine blk_far ?_ NB409_431.out _; (with_reducible repeat (first | refine blk_drewN ?_ _ | refine blk_drew ?_ | refine blk_alloc ?_ _)); refine blk_far ?_ NB409_431.out _; (with_reducible repeat (first | refine blk_drewN ?_ _ | refine blk_drew ?_ | refine blk_alloc ?_ _)); refine blk_far ?_ NB409_431.out _; (with_reducible repeat (first | refine blk_drewN ?_ _ | refine blk_drew ?_ | refine blk_alloc ?_ _)); refine blk_far ?_ NB409_431.out _; (with_reducible repeat (first | refine blk_drewN ?_ _ | refine blk_drew ?_ | refine blk_alloc ?_ _)); refine blk_far ?_ NB409_431.out _; (with_reducible repeat (first | refine blk_drewN ?_ _ | refine blk_drew ?_ | refine blk_alloc ?_ _)); refine blk_far ?_ NB409_431.out _; (with_reducible repeat (first | refine blk_drewN ?_ _ | refine blk_drew ?_ | refine blk_alloc ?_ _)); refine blk_far ?_ NB409_431.out _; (with_reducible repeat (first | refine blk_drewN ?_ _ | refine blk_drew ?_ | refine blk_alloc ?_ _)); refine blk_far ?_ NB409_431.out _; (with_reducible repeat (first | refine blk_drewN ?_ _ | refine blk_drew ?_ | refine blk_alloc ?_ _)); exact BK409.out⟩
                                              have n6_ : Aside0 ((((((((((((w70.setCell ⟨gb431, 0, none⟩ (.int .i64 ((rd_T46 t403 x118_4).f0.f0))).setCell ⟨gb431, 1, none⟩ (.int .i64 ((rd_T46 t403 x118_4).f0.f1))).setCell ⟨gb431, 2, none⟩ (.int .i64 ((rd_T46 t403 x118_4).f0.f2))).setCell ⟨gb431, 3, none⟩ (.int .i64 ((rd_T46 t403 x118_4).f0.f3))).setCell ⟨gb431, 4, none⟩ (.int .i64 ((rd_T46 t403 x118_4).f0.f4))).setCell ⟨gb431, 5, none⟩ (.int .i64 ((rd_T46 t403 x118_4).f0.f5))).setCell ⟨gb431, 6, none⟩ (.int .i64 ((rd_T46 t403 x118_4).f0.f6))).setCell ⟨gb431, 7, none⟩ (.int .i64 ((rd_T46 t403 x118_4).f0.f7))).setCell ⟨gb431, 8, none⟩ (.int .i64 ((rd_T46 t403 x118_4).f0.f8))).setCell ⟨gb431, 9, none⟩ (.int .i64 ((rd_T46 t403 x118_4).f1))).setCell ⟨gb431, 10, none⟩ (.int .i64 ((rd_T46 t403 x118_4).f2))).heap[gb431]? = some (.cells #[.int .i64 ((rd_T46 t403 x118_4).f0.f0), .int .i64 ((rd_T46 t403 x118_4).f0.f1), .int .i64 ((rd_T46 t403 x118_4).f0.f2), .int .i64 ((rd_T46 t403 x118_4).f0.f3), .int .i64 ((rd_T46 t403 x118_4).f0.f4), .int .i64 ((rd_T46 t403 x118_4).f0.f5), .int .i64 ((rd_T46 t403 x118_4).f0.f6), .int .i64 ((rd_T46 t403 x118_4).f0.f7), .int .i64 ((rd_T46 t403 x118_4).f0.f8), .int .i64 ((rd_T46 t403 x118_4).f1), .int .i64 ((rd_T46 t403 x118_4).f2)] 46 (0, 0))) := ⟨by (with_reducible repeat (first | refine blk_drewN ?_ _ | refine blk_drew ?_ | refine blk_alloc ?_ _)); refine blk_put (cs := #[.int .i64 ((rd_T46 t403 x118_4).f0.f0), .int .i64 ((rd_T46 t403 x118_4).f0.f1), .int .i64 ((rd_T46 t403 x118_4).f0.f2), .int .i64 ((rd_T46 t403 x118_4).f0.f3), .int .i64 ((rd_T46 t403 x118_4).f0.f4), .int .i64 ((rd_T46 t403 x118_4).f0.f5), .int .i64 ((rd_T46 t403 x118_4).f0.f6), .int .i64 ((rd_T46 t403 x118_4).f0.f7), .int .i64 ((rd_T46 t403 x118_4).f0.f8), .int .i64 ((rd_T46 t403 x118_4).f1), .int .i64 0]) ?_ 10 _ rfl; (with_reducible repeat (first | refine blk_drewN ?_ _ | refine blk_drew ?_ | refine blk_alloc ?_ _)); refine blk_put (cs := #[.int .i64 ((rd_T46 t403 x118_4).f0.f0), .int .i64 ((rd_T46 t403 x118_4).f0.f1), .int .i64 ((rd_T46 t403 x118_4).f0.f2), .int .i64 ((rd_T46 t403 x118_4).f0.f3), .int .i64 ((rd_T46 t403 x118_4).f0.f4), .int .i64 ((rd_T46 t403 x118_4).f0.f5), .int .i64 ((rd_T46 t403 x118_4).f0.f6), .int .i64 ((rd_T46 t403 x118_4).f0.f7), .int .i64 ((rd_T46 t403 x118_4).f0.f8), .int .i64 0, .int .i64 0]) ?_ 9 _ rfl; (with_reducible repeat (first | refine blk_drewN ?_ _ | refine blk_drew ?_ | refine blk_alloc ?_ _)); refine blk_put (cs := #[.int .i64 ((rd_T46 t403 x118_4).f0.f0), .int .i64 ((rd_T46 t403 x118_4).f0.f1), .int .i64 ((rd_T46 t403 x118_4).f0.f2), .int .i64 ((rd_T46 t403 x118_4).f0.f3), .int .i64 ((rd_T46 t403 x118_4).f0.f4), .int .i64 ((rd_T46 t403 x118_4).f0.f5), .int .i64 ((rd_T46 t403 x118_4).f0.f6), .int .i64 ((rd_T46 t403 x118_4).f0.f7), .int .i64 0, .int .i64 0, .int .i64 0]) ?_ 8 _ rfl; (with_reducible repeat (first | refine blk_drewN ?_ _ | refine blk_drew ?_ | refine blk_alloc ?_ _)); refine blk_put (cs := #[.int .i64 ((rd_T46 t403 x118_4).f0.f0), .int .i64 ((rd_T46 t403 x118_4).f0.f1), .int .i64 ((rd_T46 t403 x118_4).f0.f2), .int .i64 ((rd_T46 t403 x118_4).f0.f3), .int .i64 ((rd_T46 t403 x118_4).f0.f4), .int .i64 ((rd_T46 t403 x118_4).f0.f5), .int .i64 ((rd_T46 t403 x118_4).f0.f6), .int .i64 0, .int .i64 0, .int .i64 0, .int .i64 0]) ?_ 7 _ rfl; (with_reducible repeat (first | refine blk_drewN ?_ _ | refine blk_drew ?_ | refine blk_alloc ?_ _)); refine blk_put (cs := #[.int .i64 ((rd_T46 t403 x118_4).f0.f0), .int .i64 ((rd_T46 t403 x118_4).f0.f1), .int .i64 ((rd_T46 t403 x118_4).f0.f2), .int .i64 ((rd_T46 t403 x118_4).f0.f3), .int .i64 ((rd_T46 t403 x118_4).f0.f4), .int .i64 ((rd_T46 t403 x118_4).f0.f5), .int .i64 0, .int .i64 0, .int .i64 0, .int .i64 0, .int .i64 0]) ?_ 6 _ rfl; (with_reducible repeat (first | refine blk_drewN ?_ _ | refine blk_drew ?_ | refine blk_alloc ?_ _)); refine blk_put (cs := #[.int .i64 ((rd_T46 t403 x118_4).f0.f0), .int .i64 ((rd_T46 t403 x118_4).f0.f1), .int .i64 ((rd_T46 t403 x118_4).f0.f2), .int .i64 ((rd_T46 t403 x118_4).f0.f3), .int .i64 ((rd_T46 t403 x118_4).f0.f4), .int .i64 0, .int .i64 0, .int .i64 0, .int .i64 0, .int .i64 0, .int .i64 0]) ?_ 5 _ rfl; (with_reducible repeat (first | refine blk_drewN ?_ _ | refine blk_drew ?_ | refine blk_alloc ?_ _)); refine blk_put (cs := #[.int .i64 ((rd_T46 t403 x118_4).f0.f0), .int .i64 ((rd_T46 t403 x118_4).f0.f1), .int .i64 ((rd_T46 t403 x118_4).f0.f2), .int .i64 ((rd_T46 t403 x118_4).f0.f3), .int .i64 0, .int .i64 0, .int .i64 0, .int .i64 0, .int .i64 0, .int .i64 0, .int .i64 0]) ?_ 4 _ rfl; (with_reducible repeat (first | refine blk_drewN ?_ _ | refine blk_drew ?_ | refine blk_alloc ?_ _)); refine blk_put (cs := #[.int .i64 ((rd_T46 t403 x118_4).f0.f0), .int .i64 ((rd_T46 t403 x118_4).f0.f1), .int .i64 ((rd_T46 t403 x118_4).f0.f2), .int .i64 0, .int .i64 0, .int .i64 0, .int .i64 0, .int .i64 0, .int .i64 0, .int .i64 0, .int .i64 0]) ?_ 3 _ rfl; (with_reducible repeat (first | refine blk_drewN ?_ _ | refine blk_drew ?_ | refine blk_alloc ?_ _)); refine blk_put (cs := #[.int .i64 ((rd_T46 t403 x118_4).f0.f0), .int .i64 ((rd_T46 t403 x118_4).f0.f1), .int .i64 0, .int .i64 0, .int .i64 0, .int .i64 0, .int .i64 0, .int .i64 0, .int .i64 0, .int .i64 0, .int .i64 0]) ?_ 2 _ rfl; (with_reducible repeat (first | refine blk_drewN ?_ _ | refine blk_drew ?_ | refine blk_alloc ?_ _)); refine blk_put (cs := #[.int .i64 ((rd_T46 t403 x118_4).f0.f0), .int .i64 0, .int .i64 0, .int .i64 0, .int .i64 0, .int .i64 0, .int .i64 0, .int .i64 0, .int .i64 0, .int .i64 0, .int .i64 0]) ?_ 1 _ rfl; (with_reducible repeat (first | refine blk_drewN ?_ _ | refine blk_drew ?_ | refine blk_alloc ?_ _)); refine blk_put (cs := #[.int .i64 0, .int .i64 0, .int .i64 0, .int .i64 0, .int .i64 0, .int .i64 0, .int .i64 0, .int .i64 0, .int .i64 0, .int .i64 0, .int .i64 0]) ?_ 0 _ rfl; (with_reducible repeat (first | refine blk_drewN ?_ _ | refine blk_drew ?_ | refine blk_alloc ?_ _)); exact BK431.out⟩
                                              have n7_ : Aside0 (Below w.heap.size w (((((((((((w70.setCell ⟨gb431, 0, none⟩ (.int .i64 ((rd_T46 t403 x118_4).f0.f0))).setCell ⟨gb431, 1, none⟩ (.int .i64 ((rd_T46 t403 x118_4).f0.f1))).setCell ⟨gb431, 2, none⟩ (.int .i64 ((rd_T46 t403 x118_4).f0.f2))).setCell ⟨gb431, 3, none⟩ (.int .i64 ((rd_T46 t403 x118_4).f0.f3))).setCell ⟨gb431, 4, none⟩ (.int .i64 ((rd_T46 t403 x118_4).f0.f4))).setCell ⟨gb431, 5, none⟩ (.int .i64 ((rd_T46 t403 x118_4).f0.f5))).setCell ⟨gb431, 6, none⟩ (.int .i64 ((rd_T46 t403 x118_4).f0.f6))).setCell ⟨gb431, 7, none⟩ (.int .i64 ((rd_T46 t403 x118_4).f0.f7))).setCell ⟨gb431, 8, none⟩ (.int .i64 ((rd_T46 t403 x118_4).f0.f8))).setCell ⟨gb431, 9, none⟩ (.int .i64 ((rd_T46 t403 x118_4).f1))).setCell ⟨gb431, 10, none⟩ (.int .i64 ((rd_T46 t403 x118_4).f2)))) := ⟨by repeat (first | (with_reducible first | exact HB.out | apply below_alloc | apply pw_below_drewN | apply below_drew1 | refine below_set ?_ GE409.out | refine below_set ?_ GE431.out) | exact HB.out)⟩
                                              (try clear HO_7)
                                              (try clear HO_9)
                                              (try clear HO_116)
                                              (try clear HO_410001)
                                              (try clear HO_410002)
                                              (try clear BK409)
                                              (try clear BK431)
                                              (try clear HB)
                                              generalize (((((((((((w70.setCell ⟨gb431, 0, none⟩ (.int .i64 ((rd_T46 t403 x118_4).f0.f0))).setCell ⟨gb431, 1, none⟩ (.int .i64 ((rd_T46 t403 x118_4).f0.f1))).setCell ⟨gb431, 2, none⟩ (.int .i64 ((rd_T46 t403 x118_4).f0.f2))).setCell ⟨gb431, 3, none⟩ (.int .i64 ((rd_T46 t403 x118_4).f0.f3))).setCell ⟨gb431, 4, none⟩ (.int .i64 ((rd_T46 t403 x118_4).f0.f4))).setCell ⟨gb431, 5, none⟩ (.int .i64 ((rd_T46 t403 x118_4).f0.f5))).setCell ⟨gb431, 6, none⟩ (.int .i64 ((rd_T46 t403 x118_4).f0.f6))).setCell ⟨gb431, 7, none⟩ (.int .i64 ((rd_T46 t403 x118_4).f0.f7))).setCell ⟨gb431, 8, none⟩ (.int .i64 ((rd_T46 t403 x118_4).f0.f8))).setCell ⟨gb431, 9, none⟩ (.int .i64 ((rd_T46 t403 x118_4).f1))).setCell ⟨gb431, 10, none⟩ (.int .i64 ((rd_T46 t403 x118_4).f2))) = w73 at n0_ n1_ n2_ n3_ n4_ n5_ n6_ n7_ ⊢
                                              have HO_7 := n0_
                                              have HO_9 := n1_
                                              have HO_116 := n2_
                                              have HO_410001 := n3_
                                              have HO_410002 := n4_
                                              have BK409 := n5_
                                              have BK431 := n6_
                                              have HB := n7_
                                              clear n0_ n1_ n2_ n3_ n4_ n5_ n6_ n7_
                                              have n0_ := Aside0.mk (Kd.R_drew HO_7.out)
                                              have n1_ := Aside0.mk (Kd.R_drew HO_9.out)
                                              have n2_ := Aside0.mk (Kd.R_drew HO_116.out)
                                              have n3_ := Aside0.mk (Kd.R_drew HO_410001.out)
                                              have n4_ := Aside0.mk (Kd.R_drew HO_410002.out)
                                              have n5_ := Aside0.mk (blk_drew BK409.out)
                                              have n6_ := Aside0.mk (blk_drew BK431.out)
                                              have n7_ := Aside0.mk (below_drew1 HB.out)
                                              clear HO_7
                                              clear HO_9
                                              clear HO_116
                                              clear HO_410001
                                              clear HO_410002
                                              clear BK409
                                              clear BK431
                                              clear HB
                                              have HO_7 := n0_
                                              have HO_9 := n1_
                                              have HO_116 := n2_
                                              have HO_410001 := n3_
                                              have HO_410002 := n4_
                                              have BK409 := n5_
                                              have BK431 := n6_
                                              have HB := n7_
                                              clear n0_ n1_ n2_ n3_ n4_ n5_ n6_ n7_
                                              obtain ⟨Ao75, co75, eo75⟩ := Kd.R_slice HO_7.out
                                              (first | subst eo75 | (injection eo75 with f1_ f2_ f3_; have f4_ := f1_.symm; have f5_ := f3_.symm; clear f1_ f2_ f3_; subst f4_; subst f5_))
                                              have p432 : 0 ≤ ((ji61) : Int) := of_decide_eq_true (by first | (with_reducible assumption) | assumption)
                                              have q432 : (ji61) < (t417.length : Int) := of_decide_eq_true (by first | (with_reducible assumption) | assumption)
                                              obtain ⟨ad432, e432, hx432_0⟩ := Kd.at_int (Kd.R_reads' HO_7.out).2.2 (ji61) p432 q432
                                              cases e432
                                              replace p432 := eq_true p432
                                              replace q432 := eq_true q432
                                              have p433 : 0 ≤ (((rd_T46 t403 x118_4).f1) : Int) := of_decide_eq_true (by first | (with_reducible assumption) | assumption)
                                              have q433 : ((rd_T46 t403 x118_4).f1) < (t417.length : Int) := of_decide_eq_true (by first | (with_reducible assumption) | assumption)
                                              obtain ⟨ad433, e433, hx433_0⟩ := Kd.at_int (Kd.R_reads' HO_7.out).2.2 ((rd_T46 t403 x118_4).f1) p433 q433
                                              obtain rfl : ad432 = ad433 := (by injection e433)
                                              replace p433 := eq_true p433
                                              replace q433 := eq_true q433
                                              have p434 : 0 ≤ (((rd_T46 t403 x118_4).f2) : Int) := of_decide_eq_true (by first | (with_reducible assumption) | assumption)
                                              have q434 : ((rd_T46 t403 x118_4).f2) < (t417.length : Int) := of_decide_eq_true (by first | (with_reducible assumption) | assumption)
                                              obtain ⟨ad434, e434, hx434_0⟩ := Kd.at_int (Kd.R_reads' HO_7.out).2.2 ((rd_T46 t403 x118_4).f2) p434 q434
                                              obtain rfl : ad432 = ad434 := (by injection e434)
                                              replace p434 := eq_true p434
                                              replace q434 := eq_true q434
                                              refine start_ (n := 21) (S := fun w' => w'.cell? ⟨gb431, 0, none⟩ = some (.int .i64 ((rd_T46 t403 x118_4).f0.f0)) ∧ w'.cell? ⟨gb431, 1, none⟩ = some (.int .i64 ((rd_T46 t403 x118_4).f0.f1)) ∧ w'.cell? ⟨gb431, 2, none⟩ = some (.int .i64 ((rd_T46 t403 x118_4).f0.f2)) ∧ w'.cell? ⟨gb431, 3, none⟩ = some (.int .i64 ((rd_T46 t403 x118_4).f0.f3)) ∧ w'.cell? ⟨gb431, 4, none⟩ = some (.int .i64 ((rd_T46 t403 x118_4).f0.f4)) ∧ w'.cell? ⟨gb431, 5, none⟩ = some (.int .i64 ((rd_T46 t403 x118_4).f0.f5)) ∧ w'.cell? ⟨gb431, 6, none⟩ = some (.int .i64 ((rd_T46 t403 x118_4).f0.f6)) ∧ w'.cell? ⟨gb431, 7, none⟩ = some (.int .i64 ((rd_T46 t403 x118_4).f0.f7)) ∧ w'.cell? ⟨gb431, 8, none⟩ = some (.int .i64 ((rd_T46 t403 x118_4).f0.f8)) ∧ w'.cell? ⟨gb431, 9, none⟩ = some (.int .i64 ((rd_T46 t403 x118_4).f1)) ∧ w'.cell? ⟨gb431, 10, none⟩ = some (.int .i64 ((rd_T46 t403 x118_4).f2)) ∧ w'.cell? (ad432.add ((ji61)).toNat) = some (.int .i64 (rd t417 (ji61))) ∧ w'.cell? (ad432.add (((rd_T46 t403 x118_4).f1)).toNat) = some (.int .i64 (rd t417 ((rd_T46 t403 x118_4).f1))) ∧ w'.cell? (ad432.add (((rd_T46 t403 x118_4).f2)).toNat) = some (.int .i64 (rd t417 ((rd_T46 t403 x118_4).f2)))) (ds := []) #[false, false, false, false, false, false, false, false, false, false, false, false, false, false, false, false, false, false, false, false, false] (by kernel_rfl) rfl rfl ⟨(blk_cell BK431.out 0).trans rfl, (blk_cell BK431.out 1).trans rfl, (blk_cell BK431.out 2).trans rfl, (blk_cell BK431.out 3).trans rfl, (blk_cell BK431.out 4).trans rfl, (blk_cell BK431.out 5).trans rfl, (blk_cell BK431.out 6).trans rfl, (blk_cell BK431.out 7).trans rfl, (blk_cell BK431.out 8).trans rfl, (blk_cell BK431.out 9).trans rfl, (blk_cell BK431.out 10).trans rfl, hx432_0, hx433_0, hx434_0⟩ (fun hHeld => ?_); refine with_tabW laws_FnLines.tab23 laws_FnLines.bits23 (fun HT_ HW_ => ?_)
                                              generalize w73.drew = w74 at HO_7 HO_9 HO_116 HO_410001 HO_410002 BK409 BK431 HB hx432_0 hx433_0 hx434_0 hHeld ⊢
                                              refine pure_ (i := 0) (N := some 123) (v := ?_) (a' := ?_) #[true, false, false, false, false, false, false, false, false, false, false, false, false, false, false, false, false, false, false, false, false] rfl rfl (any_of HT_.out (by kernel_rfl)) (fun _ _ _ h => h) (Or.inl ⟨by rfl, ?_⟩) ?_ ?_
                                              rotate_left
                                              · intro w'
                                                go_simp
                                                with_reducible rfl
                                              rotate_left
                                              · simp only [Act.put, List.setIfInBounds_toArray, List.set_cons_zero, List.set_cons_succ, i64_w, i32_w]
                                                rfl
                                              refine pure_ (i := 1) (N := some 124) (v := ?_) (a' := ?_) #[true, true, false, false, false, false, false, false, false, false, false, false, false, false, false, false, false, false, false, false, false] rfl rfl (any_of HT_.out (by kernel_rfl)) (fun _ _ _ h => h) (Or.inl ⟨by rfl, ?_⟩) ?_ ?_
                                              rotate_left
                                              · intro w'
                                                go_simp
                                                with_reducible rfl
                                              rotate_left
                                              · simp only [Act.put, List.setIfInBounds_toArray, List.set_cons_zero, List.set_cons_succ, i64_w, i32_w]
                                                rfl
                                              refine pure_ (i := 2) (N := some 125) (v := ?_) (a' := ?_) #[true, true, true, false, false, false, false, false, false, false, false, false, false, false, false, false, false, false, false, false, false] rfl rfl (any_of HT_.out (by kernel_rfl)) (fun _ _ _ h => h) (Or.inl ⟨by rfl, ?_⟩) ?_ ?_
                                              rotate_left
                                              · intro w'
                                                go_simp
                                                with_reducible rfl
                                              rotate_left
                                              · simp only [Act.put, List.setIfInBounds_toArray, List.set_cons_zero, List.set_cons_succ, i64_w, i32_w]
                                                rfl
                                              refine pure_ (i := 3) (N := some 126) (v := ?_) (a' := ?_) #[true, true, true, true, false, false, false, false, false, false, false, false, false, false, false, false, false, false, false, false, false] rfl rfl (any_of HT_.out (by kernel_rfl)) (fun _ _ _ h => h) (Or.inl ⟨by rfl, ?_⟩) ?_ ?_
                                              rotate_left
                                              · intro w'
                                                go_simp
                                                with_reducible rfl
                                              rotate_left
                                              · simp only [Act.put, List.setIfInBounds_toArray, List.set_cons_zero, List.set_cons_succ, i64_w, i32_w]
                                                rfl
                                              refine pure_ (i := 4) (N := some 127) (v := ?_) (a' := ?_) #[true, true, true, true, true, false, false, false, false, false, false, false, false, false, false, false, false, false, false, false, false] rfl rfl (any_of HT_.out (by kernel_rfl)) (fun _ _ _ h => h) (Or.inl ⟨by rfl, ?_⟩) ?_ ?_
                                              rotate_left
                                              · intro w'
                                                go_simp
                                                with_reducible rfl
                                              rotate_left
                                              · simp only [Act.put, List.setIfInBounds_toArray, List.set_cons_zero, List.set_cons_succ, i64_w, i32_w]
                                                rfl
                                              refine pure_ (i := 5) (N := some 128) (v := ?_) (a' := ?_) #[true, true, true, true, true, true, false, false, false, false, false, false, false, false, false, false, false, false, false, false, false] rfl rfl (any_of HT_.out (by kernel_rfl)) (fun _ _ _ h => h) (Or.inl ⟨by rfl, ?_⟩) ?_ ?_
                                              rotate_left
                                              · intro w'
                                                go_simp
                                                with_reducible rfl
                                              rotate_left
                                              · simp only [Act.put, List.setIfInBounds_toArray, List.set_cons_zero, List.set_cons_succ, i64_w, i32_w]
                                                rfl
                                              refine pure_ (i := 7) (N := some 130) (v := ?_) (a' := ?_) #[true, true, true, true, true, true, false, true, false, false, false, false, false, false, false, false, false, false, false, false, false] rfl rfl (any_of HT_.out (by kernel_rfl)) (fun _ _ _ h => h) (Or.inl ⟨by rfl, ?_⟩) ?_ ?_
                                              rotate_left
                                              · intro w'
                                                go_simp
                                                with_reducible rfl
                                              rotate_left
                                              · simp only [Act.put, List.setIfInBounds_toArray, List.set_cons_zero, List.set_cons_succ, i64_w, i32_w]
                                                rfl
                                              refine pure_ (i := 9) (N := some 132) (v := ?_) (a' := ?_) #[true, true, true, true, true, true, false, true, false, true, false, false, false, false, false, false, false, false, false, false, false] rfl rfl (any_of HT_.out (by kernel_rfl)) (fun _ _ _ h => h) (Or.inl ⟨by rfl, ?_⟩) ?_ ?_
                                              rotate_left
                                              · intro w'
                                                go_simp
                                                with_reducible rfl
                                              rotate_left
                                              · simp only [Act.put, List.setIfInBounds_toArray, List.set_cons_zero, List.set_cons_succ, i64_w, i32_w]
                                                rfl
                                              refine pure_ (i := 10) (N := some 133) (v := ?_) (a' := ?_) #[true, true, true, true, true, true, false, true, false, true, true, false, false, false, false, false, false, false, false, false, false] rfl rfl (any_of HT_.out (by kernel_rfl)) (fun _ _ _ h => h) (Or.inl ⟨by rfl, ?_⟩) ?_ ?_
                                              rotate_left
                                              · intro w'
                                                go_simp
                                                with_reducible rfl
                                              rotate_left
                                              · simp only [Act.put, List.setIfInBounds_toArray, List.set_cons_zero, List.set_cons_succ, i64_w, i32_w]
                                                rfl
                                              refine pure_ (i := 14) (N := some 137) (v := ?_) (a' := ?_) #[true, true, true, true, true, true, false, true, false, true, true, false, false, false, true, false, false, false, false, false, false] rfl rfl (any_of HT_.out (by kernel_rfl)) (fun _ _ _ h => h) (Or.inl ⟨by rfl, ?_⟩) ?_ ?_
                                              rotate_left
                                              · intro w'
                                                go_simp
                                                with_reducible rfl
                                              rotate_left
                                              · simp only [Act.put, List.setIfInBounds_toArray, List.set_cons_zero, List.set_cons_succ, i64_w, i32_w]
                                                rfl
                                              refine pure_ (i := 15) (N := some 138) (v := ?_) (a' := ?_) #[true, true, true, true, true, true, false, true, false, true, true, false, false, false, true, true, false, false, false, false, false] rfl rfl (any_of HT_.out (by kernel_rfl)) (fun _ _ _ h => h) (Or.inl ⟨by rfl, ?_⟩) ?_ ?_
                                              rotate_left
                                              · intro w'
                                                go_simp
                                                with_reducible rfl
                                              rotate_left
                                              · simp only [Act.put, List.setIfInBounds_toArray, List.set_cons_zero, List.set_cons_succ, i64_w, i32_w]
                                                rfl
                                              refine take_ (i := 6) (N := some 129) (v := ?_) (a' := ?_) #[true, true, true, true, true, true, true, true, false, true, true, false, false, false, true, true, false, false, false, false, false] rfl rfl (take_ofW HT_.out HW_.out (by kernel_rfl)) (fun _ _ _ h => h) (Or.inl ⟨by rfl, ?_⟩) hHeld ?_ ?_
                                              rotate_left
                                              · rintro w' ⟨s0, s1, s2, s3, s4, s5, s6, s7, s8, s9, s10, s11, s12, s13⟩
                                                go_simp
                                                with_reducible rfl
                                              rotate_left
                                              · simp only [Act.put, List.setIfInBounds_toArray, List.set_cons_zero, List.set_cons_succ, i64_w, i32_w]
                                                rfl
                                              refine take_ (i := 8) (N := some 131) (v := ?_) (a' := ?_) #[true, true, true, true, true, true, true, true, true, true, true, false, false, false, true, true, false, false, false, false, false] rfl rfl (take_ofW HT_.out HW_.out (by kernel_rfl)) (fun _ _ _ h => h) (Or.inl ⟨by rfl, ?_⟩) hHeld ?_ ?_
                                              rotate_left
                                              · rintro w' ⟨s0, s1, s2, s3, s4, s5, s6, s7, s8, s9, s10, s11, s12, s13⟩
                                                go_simp
                                                with_reducible rfl
                                              rotate_left
                                              · simp only [Act.put, List.setIfInBounds_toArray, List.set_cons_zero, List.set_cons_succ, i64_w, i32_w]
                                                rfl
                                              refine take_ (i := 11) (N := some 134) (v := ?_) (a' := ?_) #[true, true, true, true, true, true, true, true, true, true, true, true, false, false, true, true, false, false, false, false, false] rfl rfl (take_ofW HT_.out HW_.out (by kernel_rfl)) (fun _ _ _ h => h) (Or.inl ⟨by rfl, ?_⟩) hHeld ?_ ?_
                                              rotate_left
                                              · rintro w' ⟨s0, s1, s2, s3, s4, s5, s6, s7, s8, s9, s10, s11, s12, s13⟩
                                                go_simp
                                                with_reducible rfl
                                              rotate_left
                                              · simp only [Act.put, List.setIfInBounds_toArray, List.set_cons_zero, List.set_cons_succ, i64_w, i32_w]
                                                rfl
                                              refine pure_ (i := 12) (N := some 135) (v := ?_) (a' := ?_) #[true, true, true, true, true, true, true, true, true, true, true, true, true, false, true, true, false, false, false, false, false] rfl rfl (any_of HT_.out (by kernel_rfl)) (fun _ _ _ h => h) (Or.inl ⟨by rfl, ?_⟩) ?_ ?_
                                              rotate_left
                                              · intro w'
                                                go_simp
                                                with_reducible rfl
                                              rotate_left
                                              · simp only [Act.put, List.setIfInBounds_toArray, List.set_cons_zero, List.set_cons_succ, i64_w, i32_w]
                                                rfl
                                              refine take_ (i := 13) (N := some 136) (v := ?_) (a' := ?_) #[true, true, true, true, true, true, true, true, true, true, true, true, true, true, true, true, false, false, false, false, false] rfl rfl (take_ofW HT_.out HW_.out (by kernel_rfl)) (fun _ _ _ h => h) (Or.inl ⟨by rfl, ?_⟩) hHeld ?_ ?_
                                              rotate_left
                                              · rintro w' ⟨s0, s1, s2, s3, s4, s5, s6, s7, s8, s9, s10, s11, s12, s13⟩
                                                go_simp
                                                with_reducible rfl
                                              rotate_left
                                              · simp only [Act.put, List.setIfInBounds_toArray, List.set_cons_zero, List.set_cons_succ, i64_w, i32_w]
                                                rfl
                                              refine take_ (i := 16) (N := some 139) (v := ?_) (a' := ?_) #[true, true, true, true, true, true, true, true, true, true, true, true, true, true, true, true, true, false, false, false, false] rfl rfl (take_ofW HT_.out HW_.out (by kernel_rfl)) (fun _ _ _ h => h) (Or.inl ⟨by rfl, ?_⟩) hHeld ?_ ?_
                                              rotate_left
                                              · rintro w' ⟨s0, s1, s2, s3, s4, s5, s6, s7, s8, s9, s10, s11, s12, s13⟩
                                                go_simp
                                                with_reducible rfl
                                              rotate_left
                                              · simp only [Act.put, List.setIfInBounds_toArray, List.set_cons_zero, List.set_cons_succ, i64_w, i32_w]
                                                rfl
                                              refine pure_ (i := 17) (N := some 140) (v := ?_) (a' := ?_) #[true, true, true, true, true, true, true, true, true, true, true, true, true, true, true, true, true, true, false, false, false] rfl rfl (any_of HT_.out (by kernel_rfl)) (fun _ _ _ h => h) (Or.inl ⟨by rfl, ?_⟩) ?_ ?_
                                              rotate_left
                                              · intro w'
                                                go_simp
                                                with_reducible rfl
                                              rotate_left
                                              · simp only [Act.put, List.setIfInBounds_toArray, List.set_cons_zero, List.set_cons_succ, i64_w, i32_w]
                                                rfl
                                              refine take_ (i := 18) (N := some 141) (v := ?_) (a' := ?_) #[true, true, true, true, true, true, true, true, true, true, true, true, true, true, true, true, true, true, true, false, false] rfl rfl (take_ofW HT_.out HW_.out (by kernel_rfl)) (fun _ _ _ h => h) (Or.inl ⟨by rfl, ?_⟩) hHeld ?_ ?_
                                              rotate_left
                                              · rintro w' ⟨s0, s1, s2, s3, s4, s5, s6, s7, s8, s9, s10, s11, s12, s13⟩
                                                go_simp
                                                with_reducible rfl
                                              rotate_left
                                              · simp only [Act.put, List.setIfInBounds_toArray, List.set_cons_zero, List.set_cons_succ, i64_w, i32_w]
                                                rfl
                                              refine one_ (i := 19) (N := some 142) #[true, true, true, true, true, true, true, true, true, true, true, true, true, true, true, true, true, true, true, true, false] rfl rfl (one_of HT_.out (by kernel_rfl)) (by decide) (fun K hK => ?_)
                                              refine goes_ Try.func28 (by kernel_rfl) rfl #[.agg #[.int .i64 ((rd_T46 t403 x118_4).f0.f0), .int .i64 ((rd_T46 t403 x118_4).f0.f1), .int .i64 ((rd_T46 t403 x118_4).f0.f2), .int .i64 ((rd_T46 t403 x118_4).f0.f3), .int .i64 ((rd_T46 t403 x118_4).f0.f4), .int .i64 ((rd_T46 t403 x118_4).f0.f5), .int .i64 ((rd_T46 t403 x118_4).f0.f6), .int .i64 ((rd_T46 t403 x118_4).f0.f7), .int .i64 ((rd_T46 t403 x118_4).f0.f8)], .int .i64 (rd t417 ((rd_T46 t403 x118_4).f1)), .int .i64 (rd t417 ((rd_T46 t403 x118_4).f2))] (by rfl) rfl rfl (by (try simp only [List.map_toArray, List.map_cons, List.map_nil]); first | done | rfl | (simp only [List.length_drop, List.length_take]; rfl)) ?_
                                              with_reducible refine (impl_LookUp.calls k4 ((rd_T46 t403 x118_4).f0.f0) ((rd_T46 t403 x118_4).f0.f1) ((rd_T46 t403 x118_4).f0.f2) ((rd_T46 t403 x118_4).f0.f3) ((rd_T46 t403 x118_4).f0.f4) ((rd_T46 t403 x118_4).f0.f5) ((rd_T46 t403 x118_4).f0.f6) ((rd_T46 t403 x118_4).f0.f7) ((rd_T46 t403 x118_4).f0.f8) (rd t417 ((rd_T46 t403 x118_4).f1)) (rd t417 ((rd_T46 t403 x118_4).f2)) t435 _ A68.out).mono ?_
                                              rintro e w76 ⟨rfl, hb⟩
                                              have HS11_ := (hb.cell (World.block_lt_of_cell? _ _ (hHeld.2.2.2.2.2.2.2.2.2.2.2.1))).trans (hHeld.2.2.2.2.2.2.2.2.2.2.2.1)
                                              have HS12_ := (hb.cell (World.block_lt_of_cell? _ _ (hHeld.2.2.2.2.2.2.2.2.2.2.2.2.1))).trans (hHeld.2.2.2.2.2.2.2.2.2.2.2.2.1)
                                              have HS13_ := (hb.cell (World.block_lt_of_cell? _ _ (hHeld.2.2.2.2.2.2.2.2.2.2.2.2.2))).trans (hHeld.2.2.2.2.2.2.2.2.2.2.2.2.2)
                                              refine ⟨_, rfl, ?_⟩
                                              have n0_ := Aside0.mk (Kd.R_below (by (with_reducible repeat (first | apply Kd.R_alloc | apply Kd.R_drewN | apply Kd.R_drew)); exact HO_7.out) hb)
                                              have n1_ := Aside0.mk (Kd.R_below (by (with_reducible repeat (first | apply Kd.R_alloc | apply Kd.R_drewN | apply Kd.R_drew)); exact HO_9.out) hb)
                                              have n2_ := Aside0.mk (Kd.R_below (by (with_reducible repeat (first | apply Kd.R_alloc | apply Kd.R_drewN | apply Kd.R_drew)); exact HO_116.out) hb)
                                              have n3_ := Aside0.mk (Kd.R_below (by (with_reducible repeat (first | apply Kd.R_alloc | apply Kd.R_drewN | apply Kd.R_drew)); exact HO_410001.out) hb)
                                              have n4_ := Aside0.mk (Kd.R_below (by (with_reducible repeat (first | apply Kd.R_alloc | apply Kd.R_drewN | apply Kd.R_drew)); exact HO_410002.out) hb)
                                              have n5_ := Aside0.mk (blk_below (g := gb409) (o := .cells #[.int .i64 t402, .slice (some ad430) t403.length co8, .slice Ao9 t406.length co9] 35 (0, 0)) (by (with_reducible repeat (first | refine blk_drewN ?_ _ | refine blk_drew ?_ | refine blk_alloc ?_ _)); exact BK409.out) hb)
                                              have n6_ := Aside0.mk (blk_below (g := gb431) (o := .cells #[.int .i64 ((rd_T46 t403 x118_4).f0.f0), .int .i64 ((rd_T46 t403 x118_4).f0.f1), .int .i64 ((rd_T46 t403 x118_4).f0.f2), .int .i64 ((rd_T46 t403 x118_4).f0.f3), .int .i64 ((rd_T46 t403 x118_4).f0.f4), .int .i64 ((rd_T46 t403 x118_4).f0.f5), .int .i64 ((rd_T46 t403 x118_4).f0.f6), .int .i64 ((rd_T46 t403 x118_4).f0.f7), .int .i64 ((rd_T46 t403 x118_4).f0.f8), .int .i64 ((rd_T46 t403 x118_4).f1), .int .i64 ((rd_T46 t403 x118_4).f2)] 46 (0, 0)) (by (with_reducible repeat (first | refine blk_drewN ?_ _ | refine blk_drew ?_ | refine blk_alloc ?_ _)); exact BK431.out) hb)
                                              have n7_ := Aside0.mk (below_step (by repeat (first | (with_reducible first | exact HB.out | apply below_alloc | apply pw_below_drewN | apply below_drew1 | refine below_set ?_ GE409.out | refine below_set ?_ GE431.out) | exact HB.out)) hb)
                                              clear HO_7
                                              clear HO_9
                                              clear HO_116
                                              clear HO_410001
                                              clear HO_410002
                                              clear BK409
                                              clear BK431
                                              clear HB
                                              have HO_7 := n0_
                                              have HO_9 := n1_
                                              have HO_116 := n2_
                                              have HO_410001 := n3_
                                              have HO_410002 := n4_
                                              have BK409 := n5_
                                              have BK431 := n6_
                                              have HB := n7_
                                              clear n0_ n1_ n2_ n3_ n4_ n5_ n6_ n7_
                                              (try clear hb)
                                              (try clear hb2)
                                              (try clear hk)
                                              (try clear hi)
                                              refine hK.out _ _ ⟨(blk_cell BK431.out 0).trans rfl, (blk_cell BK431.out 1).trans rfl, (blk_cell BK431.out 2).trans rfl, (blk_cell BK431.out 3).trans rfl, (blk_cell BK431.out 4).trans rfl, (blk_cell BK431.out 5).trans rfl, (blk_cell BK431.out 6).trans rfl, (blk_cell BK431.out 7).trans rfl, (blk_cell BK431.out 8).trans rfl, (blk_cell BK431.out 9).trans rfl, (blk_cell BK431.out 10).trans rfl, HS11_, HS12_, HS13_⟩ (fun hHeld => ?_)
                                              clear hK K
                                              refine norm_ (a' := ?_) ?_ ?_
                                              rotate_left
                                              · show Act.put _ (some 142) _ = _
                                                simp only [Act.put, List.setIfInBounds_toArray, List.set_cons_zero, List.set_cons_succ, i64_w, i32_w]
                                                rfl
                                              refine pure_ (i := 20) (N := some 143) (v := ?_) (a' := ?_) #[true, true, true, true, true, true, true, true, true, true, true, true, true, true, true, true, true, true, true, true, true] rfl rfl (any_of HT_.out (by kernel_rfl)) (fun _ _ _ h => h) (Or.inl ⟨by rfl, ?_⟩) ?_ ?_
                                              rotate_left
                                              · intro w'
                                                go_simp
                                                with_reducible rfl
                                              rotate_left
                                              · simp only [Act.put, List.setIfInBounds_toArray, List.set_cons_zero, List.set_cons_succ, i64_w, i32_w]
                                                rfl
                                              refine done_ (done_of HT_.out (by kernel_rfl)) ?_
                                              try go_wp2
                                              go_roundg k4
                                              case measure => have := HK1.out; have := HJ17.out; have := HK3.out; have := HK4.out; omega
                                              case rel => exact ⟨(wrap64 (x118_4 + 1)), (by first | rfl | (simp; done) | (simp [*]; done)), H', ⟨by have := HK1.out; have := HJ17.out; have := HK3.out; have := HK4.out; omega⟩, ⟨by (with_reducible repeat (first | apply Kd.R_alloc | apply Kd.R_drewN | apply Kd.R_drew)); exact HO_7.out⟩, ⟨by (with_reducible repeat (first | apply Kd.R_alloc | apply Kd.R_drewN | apply Kd.R_drew)); exact HO_9.out⟩, ⟨by (with_reducible repeat (first | apply Kd.R_alloc | apply Kd.R_drewN | apply Kd.R_drew)); exact Kd.R_mono HO_116.out (fun _ hk => trivial)⟩, ⟨by (with_reducible repeat (first | apply Kd.R_alloc | apply Kd.R_drewN | apply Kd.R_drew)); exact Kd.R_mono HO_410001.out (fun _ hk => trivial)⟩, ⟨by (with_reducible repeat (first | apply Kd.R_alloc | apply Kd.R_drewN | apply Kd.R_drew)); exact HO_410002.out⟩, ⟨by (with_reducible repeat (first | refine blk_drewN ?_ _ | refine blk_drew ?_ | refine blk_alloc ?_ _)); exact BK409.out⟩, ⟨by repeat (first | (with_reducible first | exact HB.out | apply below_alloc | apply pw_below_drewN | apply below_drew1 | refine below_set ?_ GE409.out | refine below_set ?_ GE431.out) | exact HB.out)⟩⟩
                                            · rw [if_neg c69] at H
                                              have c69b0 : ((rd t417 (ji61)) == t435) = false := beq_eq_false_iff_ne.mpr c69
                                              have c69b1 : ((rd t417 (ji61)) != t435) = true := bne_iff_ne.mpr c69
                                              exact absurd ((Option.some.inj H).trans HT.out) (by decide)
                                          · rw [if_neg c67] at H
                                            exact absurd H (by simp)
                                        · rw [if_neg c66] at H
                                          exact absurd H (by simp)
                                      · rw [if_neg c65] at H
                                        exact absurd H (by simp)
                                    · rw [if_neg c64] at H
                                      exact absurd H (by simp)
                                  · rw [if_neg c63] at H
                                    exact absurd H (by simp)
                                · rw [if_neg c62] at H
                                  exact absurd H (by simp)
                              · rw [if_neg c60] at H
                                exact absurd H (by simp)
                            · rw [if_neg c59] at H
                              exact absurd H (by simp)
                          · rw [if_neg c58] at H
                            have c58b0 : decide (x118_4 < (t403.length : Int)) = false := decide_eq_false c58
                            clear c58
                            have H' := Aside0.mk H
                            clear H
                            have hcz77_0 : wr.cell? ⟨gb409, 0, none⟩ = some (.int .i64 t402) := (blk_cell BK409.out 0).trans rfl
                            have hcz77_1 : wr.cell? ⟨gb409, 1, none⟩ = some (.slice Ao8 t403.length co8) := (blk_cell BK409.out 1).trans rfl
                            have hcz77_2 : wr.cell? ⟨gb409, 2, none⟩ = some (.slice Ao9 t406.length co9) := (blk_cell BK409.out 2).trans rfl
                            have hfz77_0 := blk_frozen BK409.out 0
                            have hfz77_1 := blk_frozen BK409.out 1
                            have hfz77_2 := blk_frozen BK409.out 2
                            go_wp2
                            go_loopg [148] k4 (fun kq v148 w' => ∃ (x148_5 : Int), v148 = .int .i64 x148_5 ∧ Aside0 (laws_FnLines.l3 kq t417 t421 t406 (t406.length : Int) x148_5 = some r) ∧ Aside0 (kq ≤ k4) ∧ Aside0 (Kd.R (Kd.int .i64) 3 w' w.heap.size (fun k_ => some k_ ≠ (v422 : Value).ownBlock ∧ some k_ ≠ ((.slice Ao9 t406.length co9) : Value).ownBlock ∧ some k_ ≠ ((.slice Ao9 t406.length co9) : Value).ownBlock) v418 t417) ∧ Aside0 (Kd.R (Kd.int .i64) 3 w' w.heap.size (fun k_ => some k_ ≠ (v418 : Value).ownBlock ∧ some k_ ≠ ((.slice Ao9 t406.length co9) : Value).ownBlock ∧ some k_ ≠ ((.slice Ao9 t406.length co9) : Value).ownBlock) v422 t421) ∧ Aside0 (Kd.R (Kd.int .i64) 3 w' w.heap.size (fun k_ => some k_ ≠ (v418 : Value).ownBlock ∧ some k_ ≠ (v422 : Value).ownBlock) (.slice Ao9 t406.length co9) t406) ∧ Aside0 (Kd.R k46 46 w' w.heap.size (fun _ => True) (.slice Ao8 t403.length co8) t403) ∧ Aside0 (Kd.R (Kd.int .i64) 3 w' w.heap.size (fun k_ => some k_ ≠ (v418 : Value).ownBlock ∧ some k_ ≠ (v422 : Value).ownBlock) (.slice Ao9 t406.length co9) t406) ∧ Aside0 (w'.heap[gb409]? = some (.cells #[.int .i64 t402, (.slice Ao8 t403.length co8), (.slice Ao9 t406.length co9)] 35 (0, 0))) ∧ Aside0 (Below w.heap.size w w'))
                            case atStart => exact ⟨(0), (by first | rfl | (simp; done) | (simp [*]; done)), H', ⟨Nat.le_refl _⟩, ⟨by (with_reducible repeat (first | apply Kd.R_alloc | apply Kd.R_drewN | apply Kd.R_drew)); exact Kd.R_mono HO_7.out (fun _ hk => ⟨hk.1, ⟨hk.2, hk.2⟩⟩)⟩, ⟨by (with_reducible repeat (first | apply Kd.R_alloc | apply Kd.R_drewN | apply Kd.R_drew)); exact Kd.R_mono HO_9.out (fun _ hk => ⟨hk.1, ⟨hk.2, hk.2⟩⟩)⟩, ⟨by (with_reducible repeat (first | apply Kd.R_alloc | apply Kd.R_drewN | apply Kd.R_drew)); exact HO_410002.out⟩, ⟨by (with_reducible repeat (first | apply Kd.R_alloc | apply Kd.R_drewN | apply Kd.R_drew)); exact HO_410001.out⟩, ⟨by (with_reducible repeat (first | apply Kd.R_alloc | apply Kd.R_drewN | apply Kd.R_drew)); exact HO_410002.out⟩, ⟨by (with_reducible repeat (first | refine blk_drewN ?_ _ | refine blk_drew ?_ | refine blk_alloc ?_ _)); exact BK409.out⟩, ⟨by repeat (first | (with_reducible first | exact HB.out | apply below_alloc | apply pw_below_drewN | apply below_drew1 | refine below_set ?_ GE409.out) | exact HB.out)⟩⟩
                            case round =>
                              clear H'
                              try clear c1
                              try clear c2
                              try clear c2b0
                              try clear c2b1
                              try clear p2
                              try clear c3
                              try clear c4
                              try clear p4
                              try clear q4
                              try clear hx4
                              try clear qi4
                              try clear c5
                              try clear c6
                              try clear p6
                              try clear c7
                              try clear c12
                              try clear c12b0
                              try clear c14
                              try clear c24
                              try clear c25
                              try clear c26
                              try clear c26b0
                              try clear c26b1
                              try clear c27
                              try clear c27b0
                              try clear c27b1
                              try clear c27b2
                              try clear c28
                              try clear c28b0
                              try clear c28b1
                              try clear c29
                              try clear c29b0
                              try clear c29b1
                              try clear c30
                              try clear c30b0
                              try clear c30b1
                              try clear c31
                              try clear c31b0
                              try clear c31b1
                              try clear c32
                              try clear c32b0
                              try clear c32b1
                              try clear p42
                              try clear q42
                              try clear hx42
                              try clear qi42
                              try clear p43
                              try clear q43
                              try clear hx43
                              try clear c47
                              try clear c48
                              try clear c48b0
                              try clear c50
                              try clear c50b0
                              try clear c51
                              try clear c51b0
                              try clear c52
                              try clear c52b0
                              try clear c53
                              try clear c53b0
                              try clear c54
                              try clear c54b0
                              try clear c54b1
                              try clear c58
                              try clear c58b0
                              try clear c59
                              try clear c59b0
                              try clear c60
                              try clear c60b0
                              try clear c62
                              try clear c62b0
                              try clear c63
                              try clear c63b0
                              try clear c64
                              try clear c64b0
                              try clear p64
                              try clear c65
                              try clear c65b0
                              try clear c66
                              try clear c66b0
                              try clear c67
                              try clear c67b0
                              try clear c69
                              try clear c69b0
                              try clear c69b1
                              try clear c71
                              try clear hcz19_0
                              try clear hcz19_1
                              try clear hcz19_2
                              try clear hcz22_0
                              try clear hcz22_1
                              try clear hcz22_2
                              try clear hcz34_0
                              try clear hcz34_1
                              try clear hcz34_2
                              try clear hcz37_0
                              try clear hcz37_1
                              try clear hcz37_2
                              try clear hcz40_0
                              try clear hcz40_1
                              try clear hcz40_2
                              try clear hcz43_0
                              try clear hcz43_1
                              try clear hcz43_2
                              try clear hcz46_0
                              try clear hcz46_1
                              try clear hcz46_2
                              try clear hcz57_0
                              try clear hcz57_1
                              try clear hcz57_2
                              try clear hcz72_0
                              try clear hcz72_1
                              try clear hcz72_10
                              try clear hcz72_2
                              try clear hcz72_3
                              try clear hcz72_4
                              try clear hcz72_5
                              try clear hcz72_6
                              try clear hcz72_7
                              try clear hcz72_8
                              try clear hcz72_9
                              try clear hcz77_0
                              try clear hcz77_1
                              try clear hcz77_2
                              try clear hcz7_0
                              try clear hcz7_1
                              try clear hcz7_2
                              try clear hfz19_0
                              try clear hfz19_1
                              try clear hfz19_2
                              try clear hfz22_0
                              try clear hfz22_1
                              try clear hfz22_2
                              try clear hfz34_0
                              try clear hfz34_1
                              try clear hfz34_2
                              try clear hfz37_0
                              try clear hfz37_1
                              try clear hfz37_2
                              try clear hfz40_0
                              try clear hfz40_1
                              try clear hfz40_2
                              try clear hfz43_0
                              try clear hfz43_1
                              try clear hfz43_2
                              try clear hfz46_0
                              try clear hfz46_1
                              try clear hfz46_2
                              try clear hfz57_0
                              try clear hfz57_1
                              try clear hfz57_2
                              try clear hfz72_0
                              try clear hfz72_1
                              try clear hfz72_10
                              try clear hfz72_2
                              try clear hfz72_3
                              try clear hfz72_4
                              try clear hfz72_5
                              try clear hfz72_6
                              try clear hfz72_7
                              try clear hfz72_8
                              try clear hfz72_9
                              try clear hfz77_0
                              try clear hfz77_1
                              try clear hfz77_2
                              try clear hfz7_0
                              try clear hfz7_1
                              try clear hfz7_2
                              try clear hx425_0
                              try clear hx426_0
                              try clear hx427_0
                              try clear hx428_0
                              try clear hx429_0
                              try clear hx430_0
                              try clear hx430_1
                              try clear hx430_10
                              try clear hx430_2
                              try clear hx430_3
                              try clear hx430_4
                              try clear hx430_5
                              try clear hx430_6
                              try clear hx430_7
                              try clear hx430_8
                              try clear hx430_9
                              try clear hx432_0
                              try clear hx433_0
                              try clear hx434_0
                              try clear p2
                              try clear p4
                              try clear p42
                              try clear p425
                              try clear p426
                              try clear p427
                              try clear p428
                              try clear p429
                              try clear p430
                              try clear p432
                              try clear p433
                              try clear p434
                              try clear p6
                              try clear q4
                              try clear q42
                              try clear q425
                              try clear q426
                              try clear q427
                              try clear q428
                              try clear q429
                              try clear q430
                              try clear q432
                              try clear q433
                              try clear q434
                              obtain ⟨x148_5, rfl, HA, HK5, HO_7, HO_9, HO_146, HO_410001, HO_410002, BK409, HB⟩ := hrel
                              cases gk with
                              | zero => exact absurd HA.out (by simp [laws_FnLines.l3])
                              | succ k5 =>
                                have H := HA.out
                                clear HA
                                simp only [laws_FnLines.l3] at H
                                by_cases c78 : x148_5 < (t406.length : Int)
                                · rw [if_pos c78] at H
                                  have c78b0 : decide (x148_5 < (t406.length : Int)) = true := decide_eq_true c78
                                  clear c78
                                  by_cases c79 : 0 ≤ x148_5
                                  · rw [if_pos c79] at H
                                    have c79b0 : decide (0 ≤ x148_5) = true := decide_eq_true c79
                                    clear c79
                                    by_cases c80 : x148_5 < (t406.length : Int)
                                    · rw [if_pos c80] at H
                                      have c80b0 : decide (x148_5 < (t406.length : Int)) = true := decide_eq_true c80
                                      clear c80
                                      by_cases c81 : x148_5 < (t421.length : Int)
                                      · rw [if_pos c81] at H
                                        have c81b0 : decide (x148_5 < (t421.length : Int)) = true := decide_eq_true c81
                                        clear c81
                                        by_cases c82 : 0 ≤ (rd t406 x148_5)
                                        · rw [if_pos c82] at H
                                          have c82b0 : decide (0 ≤ (rd t406 x148_5)) = true := decide_eq_true c82
                                          clear c82
                                          by_cases c83 : (rd t406 x148_5) < (t417.length : Int)
                                          · rw [if_pos c83] at H
                                            have c83b0 : decide ((rd t406 x148_5) < (t417.length : Int)) = true := decide_eq_true c83
                                            clear c83
                                            by_cases c84 : (rd t421 x148_5) = (rd t417 (rd t406 x148_5))
                                            · rw [if_pos c84] at H
                                              have c84b0 : ((rd t421 x148_5) == (rd t417 (rd t406 x148_5))) = true := beq_iff_eq.mpr c84
                                              have c84b1 : ((rd t421 x148_5) != (rd t417 (rd t406 x148_5))) = false := bne_eq_false_iff_eq.mpr c84
                                              clear c84
                                              have H' := Aside0.mk H
                                              clear H
                                              have p436 : 0 ≤ (x148_5 : Int) := of_decide_eq_true (by first | (with_reducible assumption) | assumption)
                                              have q436 : x148_5 < (t406.length : Int) := of_decide_eq_true (by first | (with_reducible assumption) | assumption)
                                              obtain ⟨ad436, e436, hx436_0⟩ := Kd.at_int (Kd.R_reads' HO_146.out).2.2 x148_5 p436 q436
                                              cases e436
                                              replace p436 := eq_true p436
                                              replace q436 := eq_true q436
                                              try go_wp2
                                              have n0_ := Aside0.mk (Kd.R_drew HO_7.out)
                                              have n1_ := Aside0.mk (Kd.R_drew HO_9.out)
                                              have n2_ := Aside0.mk (Kd.R_drew HO_146.out)
                                              have n3_ := Aside0.mk (Kd.R_drew HO_410001.out)
                                              have n4_ := Aside0.mk (Kd.R_drew HO_410002.out)
                                              have n5_ := Aside0.mk (blk_drew BK409.out)
                                              have n6_ := Aside0.mk (below_drew1 HB.out)
                                              clear HO_7
                                              clear HO_9
                                              clear HO_146
                                              clear HO_410001
                                              clear HO_410002
                                              clear BK409
                                              clear HB
                                              have HO_7 := n0_
                                              have HO_9 := n1_
                                              have HO_146 := n2_
                                              have HO_410001 := n3_
                                              have HO_410002 := n4_
                                              have BK409 := n5_
                                              have HB := n6_
                                              clear n0_ n1_ n2_ n3_ n4_ n5_ n6_
                                              obtain ⟨Ao86, co86, eo86⟩ := Kd.R_slice HO_9.out
                                              (first | subst eo86 | (injection eo86 with f1_ f2_ f3_; have f4_ := f1_.symm; have f5_ := f3_.symm; clear f1_ f2_ f3_; subst f4_; subst f5_))
                                              have p437 : 0 ≤ (x148_5 : Int) := of_decide_eq_true (by first | (with_reducible assumption) | assumption)
                                              have q437 : x148_5 < (t421.length : Int) := of_decide_eq_true (by first | (with_reducible assumption) | assumption)
                                              obtain ⟨ad437, e437, hx437_0⟩ := Kd.at_int (Kd.R_reads' HO_9.out).2.2 x148_5 p437 q437
                                              cases e437
                                              replace p437 := eq_true p437
                                              replace q437 := eq_true q437
                                              obtain ⟨Ao87, co87, eo87⟩ := Kd.R_slice HO_7.out
                                              (first | subst eo87 | (injection eo87 with f1_ f2_ f3_; have f4_ := f1_.symm; have f5_ := f3_.symm; clear f1_ f2_ f3_; subst f4_; subst f5_))
                                              have p438 : 0 ≤ ((rd t406 x148_5) : Int) := of_decide_eq_true (by first | (with_reducible assumption) | assumption)
                                              have q438 : (rd t406 x148_5) < (t417.length : Int) := of_decide_eq_true (by first | (with_reducible assumption) | assumption)
                                              obtain ⟨ad438, e438, hx438_0⟩ := Kd.at_int (Kd.R_reads' HO_7.out).2.2 (rd t406 x148_5) p438 q438
                                              cases e438
                                              replace p438 := eq_true p438
                                              replace q438 := eq_true q438
                                              refine start_ (n := 9) (S := fun w' => w'.cell? (ad437.add (x148_5).toNat) = some (.int .i64 (rd t421 x148_5)) ∧ w'.cell? (ad438.add ((rd t406 x148_5)).toNat) = some (.int .i64 (rd t417 (rd t406 x148_5)))) (ds := []) #[false, false, false, false, false, false, false, false, false] (by kernel_rfl) rfl rfl ⟨hx437_0, hx438_0⟩ (fun hHeld => ?_); refine with_tabW laws_FnLines.tab29 laws_FnLines.bits29 (fun HT_ HW_ => ?_)
                                              generalize wr.drew = w85 at HO_7 HO_9 HO_146 HO_410001 HO_410002 BK409 HB hx437_0 hx438_0 hHeld ⊢
                                              refine pure_ (i := 0) (N := some 153) (v := ?_) (a' := ?_) #[true, false, false, false, false, false, false, false, false] rfl rfl (any_of HT_.out (by kernel_rfl)) (fun _ _ _ h => h) (Or.inl ⟨by rfl, ?_⟩) ?_ ?_
                                              rotate_left
                                              · intro w'
                                                go_simp
                                                with_reducible rfl
                                              rotate_left
                                              · simp only [Act.put, List.setIfInBounds_toArray, List.set_cons_zero, List.set_cons_succ, i64_w, i32_w]
                                                rfl
                                              refine pure_ (i := 1) (N := some 154) (v := ?_) (a' := ?_) #[true, true, false, false, false, false, false, false, false] rfl rfl (any_of HT_.out (by kernel_rfl)) (fun _ _ _ h => h) (Or.inl ⟨by rfl, ?_⟩) ?_ ?_
                                              rotate_left
                                              · intro w'
                                                go_simp
                                                with_reducible rfl
                                              rotate_left
                                              · simp only [Act.put, List.setIfInBounds_toArray, List.set_cons_zero, List.set_cons_succ, i64_w, i32_w]
                                                rfl
                                              refine pure_ (i := 2) (N := some 155) (v := ?_) (a' := ?_) #[true, true, true, false, false, false, false, false, false] rfl rfl (any_of HT_.out (by kernel_rfl)) (fun _ _ _ h => h) (Or.inl ⟨by rfl, ?_⟩) ?_ ?_
                                              rotate_left
                                              · intro w'
                                                go_simp
                                                with_reducible rfl
                                              rotate_left
                                              · simp only [Act.put, List.setIfInBounds_toArray, List.set_cons_zero, List.set_cons_succ, i64_w, i32_w]
                                                rfl
                                              refine pure_ (i := 4) (N := some 157) (v := ?_) (a' := ?_) #[true, true, true, false, true, false, false, false, false] rfl rfl (any_of HT_.out (by kernel_rfl)) (fun _ _ _ h => h) (Or.inl ⟨by rfl, ?_⟩) ?_ ?_
                                              rotate_left
                                              · intro w'
                                                go_simp
                                                with_reducible rfl
                                              rotate_left
                                              · simp only [Act.put, List.setIfInBounds_toArray, List.set_cons_zero, List.set_cons_succ, i64_w, i32_w]
                                                rfl
                                              refine pure_ (i := 5) (N := some 158) (v := ?_) (a' := ?_) #[true, true, true, false, true, true, false, false, false] rfl rfl (any_of HT_.out (by kernel_rfl)) (fun _ _ _ h => h) (Or.inl ⟨by rfl, ?_⟩) ?_ ?_
                                              rotate_left
                                              · intro w'
                                                go_simp
                                                with_reducible rfl
                                              rotate_left
                                              · simp only [Act.put, List.setIfInBounds_toArray, List.set_cons_zero, List.set_cons_succ, i64_w, i32_w]
                                                rfl
                                              refine pure_ (i := 6) (N := some 159) (v := ?_) (a' := ?_) #[true, true, true, false, true, true, true, false, false] rfl rfl (any_of HT_.out (by kernel_rfl)) (fun _ _ _ h => h) (Or.inl ⟨by rfl, ?_⟩) ?_ ?_
                                              rotate_left
                                              · intro w'
                                                go_simp
                                                with_reducible rfl
                                              rotate_left
                                              · simp only [Act.put, List.setIfInBounds_toArray, List.set_cons_zero, List.set_cons_succ, i64_w, i32_w]
                                                rfl
                                              refine take_ (i := 3) (N := some 156) (v := ?_) (a' := ?_) #[true, true, true, true, true, true, true, false, false] rfl rfl (take_ofW HT_.out HW_.out (by kernel_rfl)) (fun _ _ _ h => h) (Or.inl ⟨by rfl, ?_⟩) hHeld ?_ ?_
                                              rotate_left
                                              · rintro w' ⟨s0, s1⟩
                                                go_simp
                                                with_reducible rfl
                                              rotate_left
                                              · simp only [Act.put, List.setIfInBounds_toArray, List.set_cons_zero, List.set_cons_succ, i64_w, i32_w]
                                                rfl
                                              refine take_ (i := 7) (N := some 160) (v := ?_) (a' := ?_) #[true, true, true, true, true, true, true, true, false] rfl rfl (take_ofW HT_.out HW_.out (by kernel_rfl)) (fun _ _ _ h => h) (Or.inl ⟨by rfl, ?_⟩) hHeld ?_ ?_
                                              rotate_left
                                              · rintro w' ⟨s0, s1⟩
                                                go_simp
                                                with_reducible rfl
                                              rotate_left
                                              · simp only [Act.put, List.setIfInBounds_toArray, List.set_cons_zero, List.set_cons_succ, i64_w, i32_w]
                                                rfl
                                              refine pure_ (i := 8) (N := some 161) (v := ?_) (a' := ?_) #[true, true, true, true, true, true, true, true, true] rfl rfl (any_of HT_.out (by kernel_rfl)) (fun _ _ _ h => h) (Or.inl ⟨by rfl, ?_⟩) ?_ ?_
                                              rotate_left
                                              · intro w'
                                                go_simp
                                                with_reducible rfl
                                              rotate_left
                                              · simp only [Act.put, List.setIfInBounds_toArray, List.set_cons_zero, List.set_cons_succ, i64_w, i32_w]
                                                rfl
                                              refine done_ (done_of HT_.out (by kernel_rfl)) ?_
                                              try go_wp2
                                              go_roundg k5
                                              case measure => have := HK1.out; have := HJ17.out; have := HK3.out; have := HK4.out; have := HK5.out; omega
                                              case rel => exact ⟨(wrap64 (x148_5 + 1)), (by first | rfl | (simp; done) | (simp [*]; done)), H', ⟨by have := HK1.out; have := HJ17.out; have := HK3.out; have := HK4.out; have := HK5.out; omega⟩, ⟨by (with_reducible repeat (first | apply Kd.R_alloc | apply Kd.R_drewN | apply Kd.R_drew)); exact HO_7.out⟩, ⟨by (with_reducible repeat (first | apply Kd.R_alloc | apply Kd.R_drewN | apply Kd.R_drew)); exact HO_9.out⟩, ⟨by (with_reducible repeat (first | apply Kd.R_alloc | apply Kd.R_drewN | apply Kd.R_drew)); exact HO_146.out⟩, ⟨by (with_reducible repeat (first | apply Kd.R_alloc | apply Kd.R_drewN | apply Kd.R_drew)); exact HO_410001.out⟩, ⟨by (with_reducible repeat (first | apply Kd.R_alloc | apply Kd.R_drewN | apply Kd.R_drew)); exact HO_410002.out⟩, ⟨by (with_reducible repeat (first | refine blk_drewN ?_ _ | refine blk_drew ?_ | refine blk_alloc ?_ _)); exact BK409.out⟩, ⟨by repeat (first | (with_reducible first | exact HB.out | apply below_alloc | apply pw_below_drewN | apply below_drew1 | refine below_set ?_ GE409.out) | exact HB.out)⟩⟩
                                            · rw [if_neg c84] at H
                                              have c84b0 : ((rd t421 x148_5) == (rd t417 (rd t406 x148_5))) = false := beq_eq_false_iff_ne.mpr c84
                                              have c84b1 : ((rd t421 x148_5) != (rd t417 (rd t406 x148_5))) = true := bne_iff_ne.mpr c84
                                              exact absurd ((Option.some.inj H).trans HT.out) (by decide)
                                          · rw [if_neg c83] at H
                                            exact absurd H (by simp)
                                        · rw [if_neg c82] at H
                                          exact absurd H (by simp)
                                      · rw [if_neg c81] at H
                                        exact absurd H (by simp)
                                    · rw [if_neg c80] at H
                                      exact absurd H (by simp)
                                  · rw [if_neg c79] at H
                                    exact absurd H (by simp)
                                · rw [if_neg c78] at H
                                  have c78b0 : decide (x148_5 < (t406.length : Int)) = false := decide_eq_false c78
                                  clear c78
                                  replace H := Option.bind_eq_some_iff.mp H
                                  obtain ⟨t439, A880, H⟩ := H
                                  replace H : (laws_FnLines.l4 k5 t439 (t439.length : Int) 0) = some r := H
                                  have A88 := Aside0.mk A880
                                  clear A880
                                  have H' := Aside0.mk H
                                  clear H
                                  go_wp2_with (first | ((with_reducible refine gate_callee (f := 29) rfl ?_); refine goesL_ (some 163) rfl rfl Try.func29 (by kernel_rfl) rfl #[] rfl (by (try simp only [List.map_toArray, List.map_cons, List.map_nil]); first | done | rfl | (simp only [List.length_drop, List.length_take]; rfl)) ?_; (with_reducible refine (laws_trits.calls  t439 _ A88.out).mono ?_); rintro e w89 ⟨v440, rfl, ho0, hb⟩; refine ⟨_, rfl, ?_⟩; have n0_ := Aside0.mk (Kd.R_elder' (by (with_reducible repeat (first | apply Kd.R_alloc | apply Kd.R_drewN | apply Kd.R_drew)); exact HO_7.out) (Kd.R_base ho0) hb); have n1_ := Aside0.mk (Kd.R_elder' (by (with_reducible repeat (first | apply Kd.R_alloc | apply Kd.R_drewN | apply Kd.R_drew)); exact HO_9.out) (Kd.R_base ho0) hb); have n2_ := Aside0.mk (Kd.R_elder' (by (with_reducible repeat (first | apply Kd.R_alloc | apply Kd.R_drewN | apply Kd.R_drew)); exact HO_146.out) (Kd.R_base ho0) hb); have n3_ := Aside0.mk (Kd.R_below (by (with_reducible repeat (first | apply Kd.R_alloc | apply Kd.R_drewN | apply Kd.R_drew)); exact HO_410001.out) hb); have n4_ := Aside0.mk (Kd.R_elder' (by (with_reducible repeat (first | apply Kd.R_alloc | apply Kd.R_drewN | apply Kd.R_drew)); exact HO_410002.out) (Kd.R_base ho0) hb); have n5_ := Aside0.mk (Kd.R_lower (Kd.R_new' (Kd.R_new' (Kd.R_new' (Kd.R_new' ho0 (Kd.R_lt (by (with_reducible repeat (first | apply Kd.R_alloc | apply Kd.R_drewN | apply Kd.R_drew)); exact HO_7.out))) (Kd.R_lt (by (with_reducible repeat (first | apply Kd.R_alloc | apply Kd.R_drewN | apply Kd.R_drew)); exact HO_9.out))) (Kd.R_lt (by (with_reducible repeat (first | apply Kd.R_alloc | apply Kd.R_drewN | apply Kd.R_drew)); exact HO_146.out))) (Kd.R_lt (by (with_reducible repeat (first | apply Kd.R_alloc | apply Kd.R_drewN | apply Kd.R_drew)); exact HO_410002.out))) (below_size (by repeat (first | (with_reducible first | exact HB.out | apply below_alloc | apply pw_below_drewN | apply below_drew1 | refine below_set ?_ GE409.out) | exact HB.out)))); have n6_ := Aside0.mk (blk_below (g := gb409) (o := .cells #[.int .i64 t402, .slice Ao8 t403.length co8, .slice Ao9 t406.length co9] 35 (0, 0)) (by (with_reducible repeat (first | refine blk_drewN ?_ _ | refine blk_drew ?_ | refine blk_alloc ?_ _)); exact BK409.out) hb); have n7_ := Aside0.mk (below_step (by repeat (first | (with_reducible first | exact HB.out | apply below_alloc | apply pw_below_drewN | apply below_drew1 | refine below_set ?_ GE409.out) | exact HB.out)) hb); clear HO_7; clear HO_9; clear HO_146; clear HO_410001; clear HO_410002; clear BK409; clear HB; have HO_7 := n0_; have HO_9 := n1_; have HO_146 := n2_; have HO_410001 := n3_; have HO_410002 := n4_; have HO441 := n5_; have BK409 := n6_; have HB := n7_; clear n0_ n1_ n2_ n3_ n4_ n5_ n6_ n7_; (try clear hb); (try clear hb2); (try clear hk); (try clear hi); (try clear ho0); obtain ⟨Ao90, co90, eo90⟩ := Kd.R_slice HO441.out; subst eo90))
                                  go_loopg [165] k5 (fun kq v165 w' => ∃ (x165_6 : Int), v165 = .int .i64 x165_6 ∧ Aside0 (laws_FnLines.l4 kq t439 (t439.length : Int) x165_6 = some r) ∧ Aside0 (kq ≤ k5) ∧ Aside0 (Kd.R (Kd.int .i64) 3 w' w.heap.size (fun k_ => some k_ ≠ ((.slice Ao9 t406.length co9) : Value).ownBlock) (.slice Ao90 t439.length co90) t439) ∧ Aside0 (Kd.R k46 46 w' w.heap.size (fun _ => True) (.slice Ao8 t403.length co8) t403) ∧ Aside0 (Kd.R (Kd.int .i64) 3 w' w.heap.size (fun k_ => some k_ ≠ ((.slice Ao90 t439.length co90) : Value).ownBlock) (.slice Ao9 t406.length co9) t406) ∧ Aside0 (w'.heap[gb409]? = some (.cells #[.int .i64 t402, (.slice Ao8 t403.length co8), (.slice Ao9 t406.length co9)] 35 (0, 0))) ∧ Aside0 (Below w.heap.size w w'))
                                  case atStart => exact ⟨(0), (by first | rfl | (simp; done) | (simp [*]; done)), H', ⟨Nat.le_refl _⟩, ⟨by (with_reducible repeat (first | apply Kd.R_alloc | apply Kd.R_drewN | apply Kd.R_drew)); exact Kd.R_mono HO441.out (fun _ hk => hk.2)⟩, ⟨by (with_reducible repeat (first | apply Kd.R_alloc | apply Kd.R_drewN | apply Kd.R_drew)); exact HO_410001.out⟩, ⟨by (with_reducible repeat (first | apply Kd.R_alloc | apply Kd.R_drewN | apply Kd.R_drew)); exact Kd.R_mono HO_410002.out (fun _ hk => hk.2)⟩, ⟨by (with_reducible repeat (first | refine blk_drewN ?_ _ | refine blk_drew ?_ | refine blk_alloc ?_ _)); exact BK409.out⟩, ⟨by repeat (first | (with_reducible first | exact HB.out | apply below_alloc | apply pw_below_drewN | apply below_drew1 | refine below_set ?_ GE409.out) | exact HB.out)⟩⟩
                                  case round =>
                                    clear H'
                                    try clear c1
                                    try clear c2
                                    try clear c2b0
                                    try clear c2b1
                                    try clear p2
                                    try clear c3
                                    try clear c4
                                    try clear p4
                                    try clear q4
                                    try clear hx4
                                    try clear qi4
                                    try clear c5
                                    try clear c6
                                    try clear p6
                                    try clear c7
                                    try clear c8
                                    try clear c12
                                    try clear c12b0
                                    try clear c14
                                    try clear c24
                                    try clear c25
                                    try clear c26
                                    try clear c26b0
                                    try clear c26b1
                                    try clear c27
                                    try clear c27b0
                                    try clear c27b1
                                    try clear c27b2
                                    try clear c28
                                    try clear c28b0
                                    try clear c28b1
                                    try clear c29
                                    try clear c29b0
                                    try clear c29b1
                                    try clear c30
                                    try clear c30b0
                                    try clear c30b1
                                    try clear c31
                                    try clear c31b0
                                    try clear c31b1
                                    try clear c32
                                    try clear c32b0
                                    try clear c32b1
                                    try clear p42
                                    try clear q42
                                    try clear hx42
                                    try clear qi42
                                    try clear p43
                                    try clear q43
                                    try clear hx43
                                    try clear c47
                                    try clear c48
                                    try clear c48b0
                                    try clear c50
                                    try clear c50b0
                                    try clear c51
                                    try clear c51b0
                                    try clear c52
                                    try clear c52b0
                                    try clear c53
                                    try clear c53b0
                                    try clear c54
                                    try clear c54b0
                                    try clear c54b1
                                    try clear c58
                                    try clear c58b0
                                    try clear c59
                                    try clear c59b0
                                    try clear c60
                                    try clear c60b0
                                    try clear c62
                                    try clear c62b0
                                    try clear c63
                                    try clear c63b0
                                    try clear c64
                                    try clear c64b0
                                    try clear p64
                                    try clear c65
                                    try clear c65b0
                                    try clear c66
                                    try clear c66b0
                                    try clear c67
                                    try clear c67b0
                                    try clear c69
                                    try clear c69b0
                                    try clear c69b1
                                    try clear c71
                                    try clear c78
                                    try clear c78b0
                                    try clear c79
                                    try clear c79b0
                                    try clear c80
                                    try clear c80b0
                                    try clear c81
                                    try clear c81b0
                                    try clear c82
                                    try clear c82b0
                                    try clear c83
                                    try clear c83b0
                                    try clear c84
                                    try clear c84b0
                                    try clear c84b1
                                    try clear hcz19_0
                                    try clear hcz19_1
                                    try clear hcz19_2
                                    try clear hcz22_0
                                    try clear hcz22_1
                                    try clear hcz22_2
                                    try clear hcz34_0
                                    try clear hcz34_1
                                    try clear hcz34_2
                                    try clear hcz37_0
                                    try clear hcz37_1
                                    try clear hcz37_2
                                    try clear hcz40_0
                                    try clear hcz40_1
                                    try clear hcz40_2
                                    try clear hcz43_0
                                    try clear hcz43_1
                                    try clear hcz43_2
                                    try clear hcz46_0
                                    try clear hcz46_1
                                    try clear hcz46_2
                                    try clear hcz57_0
                                    try clear hcz57_1
                                    try clear hcz57_2
                                    try clear hcz72_0
                                    try clear hcz72_1
                                    try clear hcz72_10
                                    try clear hcz72_2
                                    try clear hcz72_3
                                    try clear hcz72_4
                                    try clear hcz72_5
                                    try clear hcz72_6
                                    try clear hcz72_7
                                    try clear hcz72_8
                                    try clear hcz72_9
                                    try clear hcz77_0
                                    try clear hcz77_1
                                    try clear hcz77_2
                                    try clear hcz7_0
                                    try clear hcz7_1
                                    try clear hcz7_2
                                    try clear hfz19_0
                                    try clear hfz19_1
                                    try clear hfz19_2
                                    try clear hfz22_0
                                    try clear hfz22_1
                                    try clear hfz22_2
                                    try clear hfz34_0
                                    try clear hfz34_1
                                    try clear hfz34_2
                                    try clear hfz37_0
                                    try clear hfz37_1
                                    try clear hfz37_2
                                    try clear hfz40_0
                                    try clear hfz40_1
                                    try clear hfz40_2
                                    try clear hfz43_0
                                    try clear hfz43_1
                                    try clear hfz43_2
                                    try clear hfz46_0
                                    try clear hfz46_1
                                    try clear hfz46_2
                                    try clear hfz57_0
                                    try clear hfz57_1
                                    try clear hfz57_2
                                    try clear hfz72_0
                                    try clear hfz72_1
                                    try clear hfz72_10
                                    try clear hfz72_2
                                    try clear hfz72_3
                                    try clear hfz72_4
                                    try clear hfz72_5
                                    try clear hfz72_6
                                    try clear hfz72_7
                                    try clear hfz72_8
                                    try clear hfz72_9
                                    try clear hfz77_0
                                    try clear hfz77_1
                                    try clear hfz77_2
                                    try clear hfz7_0
                                    try clear hfz7_1
                                    try clear hfz7_2
                                    try clear hx425_0
                                    try clear hx426_0
                                    try clear hx427_0
                                    try clear hx428_0
                                    try clear hx429_0
                                    try clear hx430_0
                                    try clear hx430_1
                                    try clear hx430_10
                                    try clear hx430_2
                                    try clear hx430_3
                                    try clear hx430_4
                                    try clear hx430_5
                                    try clear hx430_6
                                    try clear hx430_7
                                    try clear hx430_8
                                    try clear hx430_9
                                    try clear hx432_0
                                    try clear hx433_0
                                    try clear hx434_0
                                    try clear hx436_0
                                    try clear hx437_0
                                    try clear hx438_0
                                    try clear p2
                                    try clear p4
                                    try clear p42
                                    try clear p425
                                    try clear p426
                                    try clear p427
                                    try clear p428
                                    try clear p429
                                    try clear p43
                                    try clear p430
                                    try clear p432
                                    try clear p433
                                    try clear p434
                                    try clear p436
                                    try clear p437
                                    try clear p438
                                    try clear p6
                                    try clear p64
                                    try clear q4
                                    try clear q42
                                    try clear q425
                                    try clear q426
                                    try clear q427
                                    try clear q428
                                    try clear q429
                                    try clear q43
                                    try clear q430
                                    try clear q432
                                    try clear q433
                                    try clear q434
                                    try clear q436
                                    try clear q437
                                    try clear q438
                                    obtain ⟨x165_6, rfl, HA, HK6, HO_163, HO_410001, HO_410002, BK409, HB⟩ := hrel
                                    cases gk with
                                    | zero => exact absurd HA.out (by simp [laws_FnLines.l4])
                                    | succ k6 =>
                                      have H := HA.out
                                      clear HA
                                      simp only [laws_FnLines.l4] at H
                                      by_cases c91 : x165_6 < (t439.length : Int)
                                      · rw [if_pos c91] at H
                                        have c91b0 : decide (x165_6 < (t439.length : Int)) = true := decide_eq_true c91
                                        clear c91
                                        by_cases c92 : 0 ≤ x165_6
                                        · rw [if_pos c92] at H
                                          have c92b0 : decide (0 ≤ x165_6) = true := decide_eq_true c92
                                          clear c92
                                          by_cases c93 : x165_6 < (t439.length : Int)
                                          · rw [if_pos c93] at H
                                            have c93b0 : decide (x165_6 < (t439.length : Int)) = true := decide_eq_true c93
                                            clear c93
                                            replace H := Option.bind_eq_some_iff.mp H
                                            obtain ⟨t443, A940, H⟩ := H
                                            replace H : (laws_FnLines.l5 k6 (rd t439 x165_6) t439 (t439.length : Int) x165_6 t443 (t443.length : Int) 0) = some r := H
                                            have A94 := Aside0.mk A940
                                            clear A940
                                            have H' := Aside0.mk H
                                            clear H
                                            have p442 : 0 ≤ (x165_6 : Int) := of_decide_eq_true (by first | (with_reducible assumption) | assumption)
                                            have q442 : x165_6 < (t439.length : Int) := of_decide_eq_true (by first | (with_reducible assumption) | assumption)
                                            obtain ⟨ad442, e442, hx442_0⟩ := Kd.at_int (Kd.R_reads' HO_163.out).2.2 x165_6 p442 q442
                                            cases e442
                                            replace p442 := eq_true p442
                                            replace q442 := eq_true q442
                                            go_wp2_with (first | ((with_reducible refine gate_callee (f := 29) rfl ?_); refine goesL_ (some 169) rfl rfl Try.func29 (by kernel_rfl) rfl #[] rfl (by (try simp only [List.map_toArray, List.map_cons, List.map_nil]); first | done | rfl | (simp only [List.length_drop, List.length_take]; rfl)) ?_; (with_reducible refine (laws_trits.calls  t443 _ A94.out).mono ?_); rintro e w95 ⟨v444, rfl, ho0, hb⟩; refine ⟨_, rfl, ?_⟩; have n0_ := Aside0.mk (Kd.R_elder' (by (with_reducible repeat (first | apply Kd.R_alloc | apply Kd.R_drewN | apply Kd.R_drew)); exact HO_163.out) (Kd.R_base ho0) hb); have n1_ := Aside0.mk (Kd.R_below (by (with_reducible repeat (first | apply Kd.R_alloc | apply Kd.R_drewN | apply Kd.R_drew)); exact HO_410001.out) hb); have n2_ := Aside0.mk (Kd.R_elder' (by (with_reducible repeat (first | apply Kd.R_alloc | apply Kd.R_drewN | apply Kd.R_drew)); exact HO_410002.out) (Kd.R_base ho0) hb); have n3_ := Aside0.mk (Kd.R_lower (Kd.R_new' (Kd.R_new' ho0 (Kd.R_lt (by (with_reducible repeat (first | apply Kd.R_alloc | apply Kd.R_drewN | apply Kd.R_drew)); exact HO_163.out))) (Kd.R_lt (by (with_reducible repeat (first | apply Kd.R_alloc | apply Kd.R_drewN | apply Kd.R_drew)); exact HO_410002.out))) (below_size (by repeat (first | (with_reducible first | exact HB.out | apply below_alloc | apply pw_below_drewN | apply below_drew1 | refine below_set ?_ GE409.out) | exact HB.out)))); have n4_ := Aside0.mk (blk_below (g := gb409) (o := .cells #[.int .i64 t402, .slice Ao8 t403.length co8, .slice Ao9 t406.length co9] 35 (0, 0)) (by (with_reducible repeat (first | refine blk_drewN ?_ _ | refine blk_drew ?_ | refine blk_alloc ?_ _)); exact BK409.out) hb); have n5_ := Aside0.mk (below_step (by repeat (first | (with_reducible first | exact HB.out | apply below_alloc | apply pw_below_drewN | apply below_drew1 | refine below_set ?_ GE409.out) | exact HB.out)) hb); clear HO_163; clear HO_410001; clear HO_410002; clear BK409; clear HB; have HO_163 := n0_; have HO_410001 := n1_; have HO_410002 := n2_; have HO445 := n3_; have BK409 := n4_; have HB := n5_; clear n0_ n1_ n2_ n3_ n4_ n5_; (try clear hb); (try clear hb2); (try clear hk); (try clear hi); (try clear ho0); obtain ⟨Ao96, co96, eo96⟩ := Kd.R_slice HO445.out; subst eo96))
                                            go_loopg [171] k6 (fun kq v171 w' => ∃ (x171_7 : Int), v171 = .int .i64 x171_7 ∧ Aside0 (laws_FnLines.l5 kq (rd t439 x165_6) t439 (t439.length : Int) x165_6 t443 (t443.length : Int) x171_7 = some r) ∧ Aside0 (kq ≤ k6) ∧ Aside0 (Kd.R (Kd.int .i64) 3 w' w.heap.size (fun k_ => some k_ ≠ ((.slice Ao96 t443.length co96) : Value).ownBlock ∧ some k_ ≠ ((.slice Ao9 t406.length co9) : Value).ownBlock) (.slice (some ad442) t439.length co90) t439) ∧ Aside0 (Kd.R (Kd.int .i64) 3 w' w.heap.size (fun k_ => some k_ ≠ ((.slice (some ad442) t439.length co90) : Value).ownBlock ∧ some k_ ≠ ((.slice Ao9 t406.length co9) : Value).ownBlock) (.slice Ao96 t443.length co96) t443) ∧ Aside0 (Kd.R k46 46 w' w.heap.size (fun _ => True) (.slice Ao8 t403.length co8) t403) ∧ Aside0 (Kd.R (Kd.int .i64) 3 w' w.heap.size (fun k_ => some k_ ≠ ((.slice (some ad442) t439.length co90) : Value).ownBlock ∧ some k_ ≠ ((.slice Ao96 t443.length co96) : Value).ownBlock) (.slice Ao9 t406.length co9) t406) ∧ Aside0 (w'.heap[gb409]? = some (.cells #[.int .i64 t402, (.slice Ao8 t403.length co8), (.slice Ao9 t406.length co9)] 35 (0, 0))) ∧ Aside0 (Below w.heap.size w w'))
                                            case atStart => exact ⟨(0), (by first | rfl | (simp; done) | (simp [*]; done)), H', ⟨Nat.le_refl _⟩, ⟨by (with_reducible repeat (first | apply Kd.R_alloc | apply Kd.R_drewN | apply Kd.R_drew)); exact Kd.R_mono HO_163.out (fun _ hk => ⟨hk.2, hk.1⟩)⟩, ⟨by (with_reducible repeat (first | apply Kd.R_alloc | apply Kd.R_drewN | apply Kd.R_drew)); exact Kd.R_mono HO445.out (fun _ hk => ⟨hk.1.2, hk.2⟩)⟩, ⟨by (with_reducible repeat (first | apply Kd.R_alloc | apply Kd.R_drewN | apply Kd.R_drew)); exact HO_410001.out⟩, ⟨by (with_reducible repeat (first | apply Kd.R_alloc | apply Kd.R_drewN | apply Kd.R_drew)); exact HO_410002.out⟩, ⟨by (with_reducible repeat (first | refine blk_drewN ?_ _ | refine blk_drew ?_ | refine blk_alloc ?_ _)); exact BK409.out⟩, ⟨by repeat (first | (with_reducible first | exact HB.out | apply below_alloc | apply pw_below_drewN | apply below_drew1 | refine below_set ?_ GE409.out) | exact HB.out)⟩⟩
                                            case round =>
                                              clear H'
                                              try clear c1
                                              try clear c2
                                              try clear c2b0
                                              try clear c2b1
                                              try clear p2
                                              try clear c3
                                              try clear c4
                                              try clear p4
                                              try clear q4
                                              try clear hx4
                                              try clear qi4
                                              try clear c5
                                              try clear c6
                                              try clear p6
                                              try clear c7
                                              try clear c8
                                              try clear c9
                                              try clear c12
                                              try clear c12b0
                                              try clear c14
                                              try clear c24
                                              try clear c25
                                              try clear c26
                                              try clear c26b0
                                              try clear c26b1
                                              try clear c27
                                              try clear c27b0
                                              try clear c27b1
                                              try clear c27b2
                                              try clear c28
                                              try clear c28b0
                                              try clear c28b1
                                              try clear c29
                                              try clear c29b0
                                              try clear c29b1
                                              try clear c30
                                              try clear c30b0
                                              try clear c30b1
                                              try clear c31
                                              try clear c31b0
                                              try clear c31b1
                                              try clear c32
                                              try clear c32b0
                                              try clear c32b1
                                              try clear p42
                                              try clear q42
                                              try clear hx42
                                              try clear qi42
                                              try clear p43
                                              try clear q43
                                              try clear hx43
                                              try clear p44
                                              try clear q44
                                              try clear hx44
                                              try clear c47
                                              try clear c48
                                              try clear c48b0
                                              try clear c50
                                              try clear c50b0
                                              try clear c51
                                              try clear c51b0
                                              try clear c52
                                              try clear c52b0
                                              try clear c53
                                              try clear c53b0
                                              try clear c54
                                              try clear c54b0
                                              try clear c54b1
                                              try clear c58
                                              try clear c58b0
                                              try clear c59
                                              try clear c59b0
                                              try clear c60
                                              try clear c60b0
                                              try clear c62
                                              try clear c62b0
                                              try clear c63
                                              try clear c63b0
                                              try clear c64
                                              try clear c64b0
                                              try clear p64
                                              try clear c65
                                              try clear c65b0
                                              try clear c66
                                              try clear c66b0
                                              try clear c67
                                              try clear c67b0
                                              try clear c69
                                              try clear c69b0
                                              try clear c69b1
                                              try clear c71
                                              try clear c78
                                              try clear c78b0
                                              try clear c79
                                              try clear c79b0
                                              try clear c80
                                              try clear c80b0
                                              try clear c81
                                              try clear c81b0
                                              try clear c82
                                              try clear c82b0
                                              try clear c83
                                              try clear c83b0
                                              try clear c84
                                              try clear c84b0
                                              try clear c84b1
                                              try clear c91
                                              try clear c91b0
                                              try clear c92
                                              try clear c92b0
                                              try clear c93
                                              try clear c93b0
                                              try clear hcz19_0
                                              try clear hcz19_1
                                              try clear hcz19_2
                                              try clear hcz22_0
                                              try clear hcz22_1
                                              try clear hcz22_2
                                              try clear hcz34_0
                                              try clear hcz34_1
                                              try clear hcz34_2
                                              try clear hcz37_0
                                              try clear hcz37_1
                                              try clear hcz37_2
                                              try clear hcz40_0
                                              try clear hcz40_1
                                              try clear hcz40_2
                                              try clear hcz43_0
                                              try clear hcz43_1
                                              try clear hcz43_2
                                              try clear hcz46_0
                                              try clear hcz46_1
                                              try clear hcz46_2
                                              try clear hcz57_0
                                              try clear hcz57_1
                                              try clear hcz57_2
                                              try clear hcz72_0
                                              try clear hcz72_1
                                              try clear hcz72_10
                                              try clear hcz72_2
                                              try clear hcz72_3
                                              try clear hcz72_4
                                              try clear hcz72_5
                                              try clear hcz72_6
                                              try clear hcz72_7
                                              try clear hcz72_8
                                              try clear hcz72_9
                                              try clear hcz77_0
                                              try clear hcz77_1
                                              try clear hcz77_2
                                              try clear hcz7_0
                                              try clear hcz7_1
                                              try clear hcz7_2
                                              try clear hfz19_0
                                              try clear hfz19_1
                                              try clear hfz19_2
                                              try clear hfz22_0
                                              try clear hfz22_1
                                              try clear hfz22_2
                                              try clear hfz34_0
                                              try clear hfz34_1
                                              try clear hfz34_2
                                              try clear hfz37_0
                                              try clear hfz37_1
                                              try clear hfz37_2
                                              try clear hfz40_0
                                              try clear hfz40_1
                                              try clear hfz40_2
                                              try clear hfz43_0
                                              try clear hfz43_1
                                              try clear hfz43_2
                                              try clear hfz46_0
                                              try clear hfz46_1
                                              try clear hfz46_2
                                              try clear hfz57_0
                                              try clear hfz57_1
                                              try clear hfz57_2
                                              try clear hfz72_0
                                              try clear hfz72_1
                                              try clear hfz72_10
                                              try clear hfz72_2
                                              try clear hfz72_3
                                              try clear hfz72_4
                                              try clear hfz72_5
                                              try clear hfz72_6
                                              try clear hfz72_7
                                              try clear hfz72_8
                                              try clear hfz72_9
                                              try clear hfz77_0
                                              try clear hfz77_1
                                              try clear hfz77_2
                                              try clear hfz7_0
                                              try clear hfz7_1
                                              try clear hfz7_2
                                              try clear hx425_0
                                              try clear hx426_0
                                              try clear hx427_0
                                              try clear hx428_0
                                              try clear hx429_0
                                              try clear hx430_0
                                              try clear hx430_1
                                              try clear hx430_10
                                              try clear hx430_2
                                              try clear hx430_3
                                              try clear hx430_4
                                              try clear hx430_5
                                              try clear hx430_6
                                              try clear hx430_7
                                              try clear hx430_8
                                              try clear hx430_9
                                              try clear hx432_0
                                              try clear hx433_0
                                              try clear hx434_0
                                              try clear hx436_0
                                              try clear hx437_0
                                              try clear hx438_0
                                              try clear hx442_0
                                              try clear p2
                                              try clear p4
                                              try clear p42
                                              try clear p425
                                              try clear p426
                                              try clear p427
                                              try clear p428
                                              try clear p429
                                              try clear p43
                                              try clear p430
                                              try clear p432
                                              try clear p433
                                              try clear p434
                                              try clear p436
                                              try clear p437
                                              try clear p438
                                              try clear p442
                                              try clear p6
                                              try clear p64
                                              try clear q4
                                              try clear q42
                                              try clear q425
                                              try clear q426
                                              try clear q427
                                              try clear q428
                                              try clear q429
                                              try clear q43
                                              try clear q430
                                              try clear q432
                                              try clear q433
                                              try clear q434
                                              try clear q436
                                              try clear q437
                                              try clear q438
                                              try clear q442
                                              obtain ⟨x171_7, rfl, HA, HK7, HO_163, HO_169, HO_410001, HO_410002, BK409, HB⟩ := hrel
                                              cases gk with
                                              | zero => exact absurd HA.out (by simp [laws_FnLines.l5])
                                              | succ k7 =>
                                                have H := HA.out
                                                clear HA
                                                simp only [laws_FnLines.l5] at H
                                                by_cases c97 : x171_7 < (t443.length : Int)
                                                · rw [if_pos c97] at H
                                                  have c97b0 : decide (x171_7 < (t443.length : Int)) = true := decide_eq_true c97
                                                  clear c97
                                                  by_cases c98 : 0 ≤ x171_7
                                                  · rw [if_pos c98] at H
                                                    have c98b0 : decide (0 ≤ x171_7) = true := decide_eq_true c98
                                                    clear c98
                                                    by_cases c99 : x171_7 < (t443.length : Int)
                                                    · rw [if_pos c99] at H
                                                      have c99b0 : decide (x171_7 < (t443.length : Int)) = true := decide_eq_true c99
                                                      clear c99
                                                      replace H := Option.bind_eq_some_iff.mp H
                                                      obtain ⟨⟨t447, t448, t449, t450, t451, t452, t453, t454, t455⟩, A1000, H⟩ := H
                                                      replace H : ((impl_LookUp.f k7 t447 t448 t449 t450 t451 t452 t453 t454 t455 (rd t443 x171_7) 0).bind fun t456 => (if ((t456 == 1) != ((rd t443 x171_7) == (rd t439 x165_6))) = true then (some false) else ((impl_LiteralTable.f (rd t439 x165_6)).bind fun bt457 => ((impl_LookUp.f k7 bt457.1 bt457.2.1 bt457.2.2.1 bt457.2.2.2.1 bt457.2.2.2.2.1 bt457.2.2.2.2.2.1 bt457.2.2.2.2.2.2.1 bt457.2.2.2.2.2.2.2.1 bt457.2.2.2.2.2.2.2.2 (rd t443 x171_7) 1).bind fun t466 => (if ((t466 == (-1)) != ((rd t443 x171_7) != (rd t439 x165_6))) = true then (some false) else (laws_FnLines.l5 k7 (rd t439 x165_6) t439 (t439.length : Int) x165_6 t443 (t443.length : Int) (wrap64 (x171_7 + 1)))))))) = some r := H
                                                      have A100 := Aside0.mk A1000
                                                      clear A1000
                                                      replace H := Option.bind_eq_some_iff.mp H
                                                      obtain ⟨t456, A1010, H⟩ := H
                                                      replace H : (if ((t456 == 1) != ((rd t443 x171_7) == (rd t439 x165_6))) = true then (some false) else ((impl_LiteralTable.f (rd t439 x165_6)).bind fun bt457 => ((impl_LookUp.f k7 bt457.1 bt457.2.1 bt457.2.2.1 bt457.2.2.2.1 bt457.2.2.2.2.1 bt457.2.2.2.2.2.1 bt457.2.2.2.2.2.2.1 bt457.2.2.2.2.2.2.2.1 bt457.2.2.2.2.2.2.2.2 (rd t443 x171_7) 1).bind fun t466 => (if ((t466 == (-1)) != ((rd t443 x171_7) != (rd t439 x165_6))) = true then (some false) else (laws_FnLines.l5 k7 (rd t439 x165_6) t439 (t439.length : Int) x165_6 t443 (t443.length : Int) (wrap64 (x171_7 + 1))))))) = some r := H
                                                      have A101 := Aside0.mk A1010
                                                      clear A1010
                                                      by_cases c102 : ((t456 == 1) != ((rd t443 x171_7) == (rd t439 x165_6))) = true
                                                      · rw [if_pos c102] at H
                                                        have c102b0 : ((t456 == 1) != ((rd t443 x171_7) == (rd t439 x165_6))) = true := c102
                                                        (try (have c102b1 : decide ((t456 == 1) = ((rd t443 x171_7) == (rd t439 x165_6))) = false := by simpa using c102))
                                                        (try (have c102b2 : ((t456 == 1) == ((rd t443 x171_7) == (rd t439 x165_6))) = false := by simpa using c102))
                                                        (try (have c102b3 : ¬ ((t456 == 1) = ((rd t443 x171_7) == (rd t439 x165_6))) := by simpa using c102))
                                                        clear c102
                                                        exact absurd ((Option.some.inj H).trans HT.out) (by decide)
                                                      · rw [if_neg c102] at H
                                                        have c102b0 : ((t456 == 1) != ((rd t443 x171_7) == (rd t439 x165_6))) = false := by simpa using c102
                                                        (try (have c102b1 : decide ((t456 == 1) = ((rd t443 x171_7) == (rd t439 x165_6))) = true := by simpa using c102))
                                                        (try (have c102b2 : ((t456 == 1) == ((rd t443 x171_7) == (rd t439 x165_6))) = true := by simpa using c102))
                                                        clear c102
                                                        replace H := Option.bind_eq_some_iff.mp H
                                                        obtain ⟨⟨t457, t458, t459, t460, t461, t462, t463, t464, t465⟩, A1030, H⟩ := H
                                                        replace H : ((impl_LookUp.f k7 t457 t458 t459 t460 t461 t462 t463 t464 t465 (rd t443 x171_7) 1).bind fun t466 => (if ((t466 == (-1)) != ((rd t443 x171_7) != (rd t439 x165_6))) = true then (some false) else (laws_FnLines.l5 k7 (rd t439 x165_6) t439 (t439.length : Int) x165_6 t443 (t443.length : Int) (wrap64 (x171_7 + 1))))) = some r := H
                                                        have A103 := Aside0.mk A1030
                                                        clear A1030
                                                        replace H := Option.bind_eq_some_iff.mp H
                                                        obtain ⟨t466, A1040, H⟩ := H
                                                        replace H : (if ((t466 == (-1)) != ((rd t443 x171_7) != (rd t439 x165_6))) = true then (some false) else (laws_FnLines.l5 k7 (rd t439 x165_6) t439 (t439.length : Int) x165_6 t443 (t443.length : Int) (wrap64 (x171_7 + 1)))) = some r := H
                                                        have A104 := Aside0.mk A1040
                                                        clear A1040
                                                        by_cases c105 : ((t466 == (-1)) != ((rd t443 x171_7) != (rd t439 x165_6))) = true
                                                        · rw [if_pos c105] at H
                                                          have c105b0 : ((t466 == (-1)) != ((rd t443 x171_7) != (rd t439 x165_6))) = true := c105
                                                          (try (have c105b1 : decide ((t466 == (-1)) = ((rd t443 x171_7) != (rd t439 x165_6))) = false := by simpa using c105))
                                                          (try (have c105b2 : ((t466 == (-1)) == ((rd t443 x171_7) != (rd t439 x165_6))) = false := by simpa using c105))
                                                          (try (have c105b3 : ¬ ((t466 == (-1)) = ((rd t443 x171_7) != (rd t439 x165_6))) := by simpa using c105))
                                                          clear c105
                                                          exact absurd ((Option.some.inj H).trans HT.out) (by decide)
                                                        · rw [if_neg c105] at H
                                                          have c105b0 : ((t466 == (-1)) != ((rd t443 x171_7) != (rd t439 x165_6))) = false := by simpa using c105
                                                          (try (have c105b1 : decide ((t466 == (-1)) = ((rd t443 x171_7) != (rd t439 x165_6))) = true := by simpa using c105))
                                                          (try (have c105b2 : ((t466 == (-1)) == ((rd t443 x171_7) != (rd t439 x165_6))) = true := by simpa using c105))
                                                          clear c105
                                                          have H' := Aside0.mk H
                                                          clear H
                                                          have p446 : 0 ≤ (x171_7 : Int) := of_decide_eq_true (by first | (with_reducible assumption) | assumption)
                                                          have q446 : x171_7 < (t443.length : Int) := of_decide_eq_true (by first | (with_reducible assumption) | assumption)
                                                          obtain ⟨ad446, e446, hx446_0⟩ := Kd.at_int (Kd.R_reads' HO_169.out).2.2 x171_7 p446 q446
                                                          cases e446
                                                          replace p446 := eq_true p446
                                                          replace q446 := eq_true q446
                                                          go_wp2_with (first | ((with_reducible refine gate_callee (f := 15) rfl ?_); refine goesL_ (some 176) rfl rfl Try.func15 (by kernel_rfl) rfl #[.int .i64 (rd t439 x165_6)] rfl (by (try simp only [List.map_toArray, List.map_cons, List.map_nil]); first | done | rfl | (simp only [List.length_drop, List.length_take]; rfl)) ?_; (with_reducible refine (impl_LiteralTable.calls (rd t439 x165_6) t447 t448 t449 t450 t451 t452 t453 t454 t455 _ A100.out).mono ?_); rintro e w106 ⟨rfl, hb⟩; refine ⟨_, rfl, ?_⟩; have n0_ := Aside0.mk (Kd.R_below (by (with_reducible repeat (first | apply Kd.R_alloc | apply Kd.R_drewN | apply Kd.R_drew)); exact HO_163.out) hb); have n1_ := Aside0.mk (Kd.R_below (by (with_reducible repeat (first | apply Kd.R_alloc | apply Kd.R_drewN | apply Kd.R_drew)); exact HO_169.out) hb); have n2_ := Aside0.mk (Kd.R_below (by (with_reducible repeat (first | apply Kd.R_alloc | apply Kd.R_drewN | apply Kd.R_drew)); exact HO_410001.out) hb); have n3_ := Aside0.mk (Kd.R_below (by (with_reducible repeat (first | apply Kd.R_alloc | apply Kd.R_drewN | apply Kd.R_drew)); exact HO_410002.out) hb); have n4_ := Aside0.mk (blk_below (g := gb409) (o := .cells #[.int .i64 t402, .slice Ao8 t403.length co8, .slice Ao9 t406.length co9] 35 (0, 0)) (by (with_reducible repeat (first | refine blk_drewN ?_ _ | refine blk_drew ?_ | refine blk_alloc ?_ _)); exact BK409.out) hb); have n5_ := Aside0.mk (below_step (by repeat (first | (with_reducible first | exact HB.out | apply below_alloc | apply pw_below_drewN | apply below_drew1 | refine below_set ?_ GE409.out) | exact HB.out)) hb); clear HO_163; clear HO_169; clear HO_410001; clear HO_410002; clear BK409; clear HB; have HO_163 := n0_; have HO_169 := n1_; have HO_410001 := n2_; have HO_410002 := n3_; have BK409 := n4_; have HB := n5_; clear n0_ n1_ n2_ n3_ n4_ n5_; (try clear hb); (try clear hb2); (try clear hk); (try clear hi); clear A100) | ((with_reducible refine gate_callee (f := 28) rfl ?_); refine goesL_ (some 178) rfl rfl Try.func28 (by kernel_rfl) rfl #[.agg #[.int .i64 t447, .int .i64 t448, .int .i64 t449, .int .i64 t450, .int .i64 t451, .int .i64 t452, .int .i64 t453, .int .i64 t454, .int .i64 t455], .int .i64 (rd t443 x171_7), .int .i64 0] rfl (by (try simp only [List.map_toArray, List.map_cons, List.map_nil]); first | done | rfl | (simp only [List.length_drop, List.length_take]; rfl)) ?_; (with_reducible refine (impl_LookUp.calls k7 t447 t448 t449 t450 t451 t452 t453 t454 t455 (rd t443 x171_7) 0 t456 _ A101.out).mono ?_); rintro e w107 ⟨rfl, hb⟩; refine ⟨_, rfl, ?_⟩; have n0_ := Aside0.mk (Kd.R_below (by (with_reducible repeat (first | apply Kd.R_alloc | apply Kd.R_drewN | apply Kd.R_drew)); exact HO_163.out) hb); have n1_ := Aside0.mk (Kd.R_below (by (with_reducible repeat (first | apply Kd.R_alloc | apply Kd.R_drewN | apply Kd.R_drew)); exact HO_169.out) hb); have n2_ := Aside0.mk (Kd.R_below (by (with_reducible repeat (first | apply Kd.R_alloc | apply Kd.R_drewN | apply Kd.R_drew)); exact HO_410001.out) hb); have n3_ := Aside0.mk (Kd.R_below (by (with_reducible repeat (first | apply Kd.R_alloc | apply Kd.R_drewN | apply Kd.R_drew)); exact HO_410002.out) hb); have n4_ := Aside0.mk (blk_below (g := gb409) (o := .cells #[.int .i64 t402, .slice Ao8 t403.length co8, .slice Ao9 t406.length co9] 35 (0, 0)) (by (with_reducible repeat (first | refine blk_drewN ?_ _ | refine blk_drew ?_ | refine blk_alloc ?_ _)); exact BK409.out) hb); have n5_ := Aside0.mk (below_step (by repeat (first | (with_reducible first | exact HB.out | apply below_alloc | apply pw_below_drewN | apply below_drew1 | refine below_set ?_ GE409.out) | exact HB.out)) hb); clear HO_163; clear HO_169; clear HO_410001; clear HO_410002; clear BK409; clear HB; have HO_163 := n0_; have HO_169 := n1_; have HO_410001 := n2_; have HO_410002 := n3_; have BK409 := n4_; have HB := n5_; clear n0_ n1_ n2_ n3_ n4_ n5_; (try clear hb); (try clear hb2); (try clear hk); (try clear hi)) | (go_at_call 15; (with_reducible refine (impl_LiteralTable.calls (rd t439 x165_6) t457 t458 t459 t460 t461 t462 t463 t464 t465 _ A103.out).mono ?_); rintro e w108 ⟨rfl, hb⟩; have n0_ := Aside0.mk (Kd.R_below (by (with_reducible repeat (first | apply Kd.R_alloc | apply Kd.R_drewN | apply Kd.R_drew)); exact HO_163.out) hb); have n1_ := Aside0.mk (Kd.R_below (by (with_reducible repeat (first | apply Kd.R_alloc | apply Kd.R_drewN | apply Kd.R_drew)); exact HO_169.out) hb); have n2_ := Aside0.mk (Kd.R_below (by (with_reducible repeat (first | apply Kd.R_alloc | apply Kd.R_drewN | apply Kd.R_drew)); exact HO_410001.out) hb); have n3_ := Aside0.mk (Kd.R_below (by (with_reducible repeat (first | apply Kd.R_alloc | apply Kd.R_drewN | apply Kd.R_drew)); exact HO_410002.out) hb); have n4_ := Aside0.mk (blk_below (g := gb409) (o := .cells #[.int .i64 t402, .slice Ao8 t403.length co8, .slice Ao9 t406.length co9] 35 (0, 0)) (by (with_reducible repeat (first | refine blk_drewN ?_ _ | refine blk_drew ?_ | refine blk_alloc ?_ _)); exact BK409.out) hb); have n5_ := Aside0.mk (below_step (by repeat (first | (with_reducible first | exact HB.out | apply below_alloc | apply pw_below_drewN | apply below_drew1 | refine below_set ?_ GE409.out) | exact HB.out)) hb); clear HO_163; clear HO_169; clear HO_410001; clear HO_410002; clear BK409; clear HB; have HO_163 := n0_; have HO_169 := n1_; have HO_410001 := n2_; have HO_410002 := n3_; have BK409 := n4_; have HB := n5_; clear n0_ n1_ n2_ n3_ n4_ n5_; (try clear hb); (try clear hb2); (try clear hk); (try clear hi); clear A103) | (go_at_call 28; (with_reducible refine (impl_LookUp.calls k7 t457 t458 t459 t460 t461 t462 t463 t464 t465 (rd t443 x171_7) 1 t466 _ A104.out).mono ?_); rintro e w109 ⟨rfl, hb⟩; have n0_ := Aside0.mk (Kd.R_below (by (with_reducible repeat (first | apply Kd.R_alloc | apply Kd.R_drewN | apply Kd.R_drew)); exact HO_163.out) hb); have n1_ := Aside0.mk (Kd.R_below (by (with_reducible repeat (first | apply Kd.R_alloc | apply Kd.R_drewN | apply Kd.R_drew)); exact HO_169.out) hb); have n2_ := Aside0.mk (Kd.R_below (by (with_reducible repeat (first | apply Kd.R_alloc | apply Kd.R_drewN | apply Kd.R_drew)); exact HO_410001.out) hb); have n3_ := Aside0.mk (Kd.R_below (by (with_reducible repeat (first | apply Kd.R_alloc | apply Kd.R_drewN | apply Kd.R_drew)); exact HO_410002.out) hb); have n4_ := Aside0.mk (blk_below (g := gb409) (o := .cells #[.int .i64 t402, .slice Ao8 t403.length co8, .slice Ao9 t406.length co9] 35 (0, 0)) (by (with_reducible repeat (first | refine blk_drewN ?_ _ | refine blk_drew ?_ | refine blk_alloc ?_ _)); exact BK409.out) hb); have n5_ := Aside0.mk (below_step (by repeat (first | (with_reducible first | exact HB.out | apply below_alloc | apply pw_below_drewN | apply below_drew1 | refine below_set ?_ GE409.out) | exact HB.out)) hb); clear HO_163; clear HO_169; clear HO_410001; clear HO_410002; clear BK409; clear HB; have HO_163 := n0_; have HO_169 := n1_; have HO_410001 := n2_; have HO_410002 := n3_; have BK409 := n4_; have HB := n5_; clear n0_ n1_ n2_ n3_ n4_ n5_; (try clear hb); (try clear hb2); (try clear hk); (try clear hi)))
                                                          go_roundg k7
                                                          case measure => have := HK1.out; have := HJ17.out; have := HK3.out; have := HK4.out; have := HK5.out; have := HK6.out; have := HK7.out; omega
                                                          case rel => exact ⟨(wrap64 (x171_7 + 1)), (by first | rfl | (simp; done) | (simp [*]; done)), H', ⟨by have := HK1.out; have := HJ17.out; have := HK3.out; have := HK4.out; have := HK5.out; have := HK6.out; have := HK7.out; omega⟩, ⟨by (with_reducible repeat (first | apply Kd.R_alloc | apply Kd.R_drewN | apply Kd.R_drew)); exact HO_163.out⟩, ⟨by (with_reducible repeat (first | apply Kd.R_alloc | apply Kd.R_drewN | apply Kd.R_drew)); exact HO_169.out⟩, ⟨by (with_reducible repeat (first | apply Kd.R_alloc | apply Kd.R_drewN | apply Kd.R_drew)); exact HO_410001.out⟩, ⟨by (with_reducible repeat (first | apply Kd.R_alloc | apply Kd.R_drewN | apply Kd.R_drew)); exact HO_410002.out⟩, ⟨by (with_reducible repeat (first | refine blk_drewN ?_ _ | refine blk_drew ?_ | refine blk_alloc ?_ _)); exact BK409.out⟩, ⟨by repeat (first | (with_reducible first | exact HB.out | apply below_alloc | apply pw_below_drewN | apply below_drew1 | refine below_set ?_ GE409.out) | exact HB.out)⟩⟩
                                                    · rw [if_neg c99] at H
                                                      exact absurd H (by simp)
                                                  · rw [if_neg c98] at H
                                                    exact absurd H (by simp)
                                                · rw [if_neg c97] at H
                                                  have c97b0 : decide (x171_7 < (t443.length : Int)) = false := decide_eq_false c97
                                                  clear c97
                                                  have H' := Aside0.mk H
                                                  clear H
                                                  go_wp2
                                                  go_roundg k7
                                                  case measure => have := HK1.out; have := HJ17.out; have := HK3.out; have := HK4.out; have := HK5.out; have := HK6.out; have := HK7.out; omega
                                                  case rel => exact ⟨(wrap64 (x165_6 + 1)), (by first | rfl | (simp; done) | (simp [*]; done)), H', ⟨by have := HK1.out; have := HJ17.out; have := HK3.out; have := HK4.out; have := HK5.out; have := HK6.out; have := HK7.out; omega⟩, ⟨by (with_reducible repeat (first | apply Kd.R_alloc | apply Kd.R_drewN | apply Kd.R_drew)); exact Kd.R_mono HO_163.out (fun _ hk => hk.2)⟩, ⟨by (with_reducible repeat (first | apply Kd.R_alloc | apply Kd.R_drewN | apply Kd.R_drew)); exact HO_410001.out⟩, ⟨by (with_reducible repeat (first | apply Kd.R_alloc | apply Kd.R_drewN | apply Kd.R_drew)); exact Kd.R_mono HO_410002.out (fun _ hk => hk.1)⟩, ⟨by (with_reducible repeat (first | refine blk_drewN ?_ _ | refine blk_drew ?_ | refine blk_alloc ?_ _)); exact BK409.out⟩, ⟨by repeat (first | (with_reducible first | exact HB.out | apply below_alloc | apply pw_below_drewN | apply below_drew1 | refine below_set ?_ GE409.out) | exact HB.out)⟩⟩
                                          · rw [if_neg c93] at H
                                            exact absurd H (by simp)
                                        · rw [if_neg c92] at H
                                          exact absurd H (by simp)
                                      · rw [if_neg c91] at H
                                        have c91b0 : decide (x165_6 < (t439.length : Int)) = false := decide_eq_false c91
                                        clear c91
                                        obtain rfl := Option.some.inj H
                                        go_wp2
                                        go_ret
                                        exact ⟨by first | rfl | (simp [errW_none, errW_some] <;> rfl) | (simp [*, errW_none, errW_some] <;> rfl), by repeat (first | (with_reducible first | exact HB.out | apply below_alloc | apply pw_below_drewN | apply below_drew1 | refine below_set ?_ GE409.out) | exact HB.out)⟩

/-- THE ONE PURE STATEMENT of laws_FnLines: yours. -/
def laws_FnLines.Pure : Prop := ∀ (l0 : List Int), l0.length ≤ maxLen → l0.length * 1 ≤ 140737488351232 → (∀ x ∈ l0, (Lit.int .u8 x).wf = true) → ∃ k, laws_FnLines.f k l0 = some true
theorem laws_FnLines.walk (P : laws_FnLines.Pure) (a0 : Option Addr) (len0 cap0 : Nat) (z0 : List Int) (w : World) (w0 : (a0 = none ∧ len0 = 0 ∧ cap0 = 0 ∧ z0 = []) ∨ ∃ x, a0 = some x ∧ len0 ≤ cap0 ∧ cap0 ≤ maxLen ∧ z0.length = cap0 ∧ (∀ i, i < z0.length → w.cell? (x.add i) = some (.int .u8 (z0.getD i 0))) ∧ ∀ n ∈ z0, (Lit.int .u8 n).wf = true) (y0 : len0 * 1 ≤ 140737488351232) :
    Calls Try.prog 6 #[.slice a0 len0 cap0] w fun e w' => e = .returned (.bool true) ∧ Below w.heap.size w w' := by
  obtain ⟨l0, rfl, hr0, hm0, hw0, hc0⟩ := ReadsInt.ofRowC w0
  obtain ⟨k, h⟩ := P l0 hm0 y0 hw0
  refine (laws_FnLines.calls k _ _ l0 true w (Kd.C_of_reads (d := (0 : Int)) (h1 := fun _ => rfl) hr0) hc0 h rfl).mono ?_
  rintro e w' ⟨rfl, hd⟩
  exact ⟨rfl, hd⟩

end Go.Proofs.Ytaopbkbjfmfcdaa.P
