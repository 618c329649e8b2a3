/- What functions of the program come to, each with the proof that it does, laid by a program of this session out of the translation; no condition is set on any claim. -/
import Derived.Test.YtaopbkbjfmfcdaaZStPSk0
import Derived.Test.YtaopbkbjfmfcdaaZStPSk6
namespace Go.Proofs.Ytaopbkbjfmfcdaa.P
open Go.RowKit Go.Proofs.YtaopbkbjfmfcdaaW.PrintWords Go.Proofs.YtaopbkbjfmfcdaaW.PrintLast Go.Proofs.YtaopbkbjfmfcdaaW.PrintMore
attribute [local go_sem] max2_int min2_int max_two min_two max_three min_three max_four min_four   -- for this text's walks alone
set_option linter.unusedVariables false
set_option linter.unusedSimpArgs false

theorem qa38 {α : Type} (l : List α) (i : Nat) (a : α) : l.toArray.setIfInBounds i a = (l.set i a).toArray := List.setIfInBounds_toArray ..
theorem qb38 {α : Type} (x a : α) (l : List α) : (x :: l).set 0 a = a :: l := rfl
theorem qc38 {α : Type} (x a : α) (l : List α) (n : Nat) : (x :: l).set (n + 1) a = x :: l.set n a := rfl
abbrev q38_0 : Array Bool := #[false, false, false, false, false, false, false, false, false, false, false, false, false, false, false, false, false, false]
abbrev q38_1 : Array Bool := #[true, false, false, false, false, false, false, false, false, false, false, false, false, false, false, false, false, false]
abbrev q38_2 : Array Bool := #[true, true, false, false, false, false, false, false, false, false, false, false, false, false, false, false, false, false]
abbrev q38_3 : Array Bool := #[true, true, false, true, false, false, false, false, false, false, false, false, false, false, false, false, false, false]
abbrev q38_4 : Array Bool := #[true, true, false, true, false, false, false, true, false, false, false, false, false, false, false, false, false, false]
abbrev q38_5 : Array Bool := #[true, true, false, true, false, false, false, true, true, false, false, false, false, false, false, false, false, false]
abbrev q38_6 : Array Bool := #[true, true, false, true, false, false, false, true, true, false, true, false, false, false, false, false, false, false]
abbrev q38_7 : Array Bool := #[true, true, true, true, false, false, false, true, true, false, true, false, false, false, false, false, false, false]
abbrev q38_8 : Array Bool := #[true, true, true, true, true, false, false, true, true, false, true, false, false, false, false, false, false, false]
abbrev q38_9 : Array Bool := #[true, true, true, true, true, true, false, true, true, false, true, false, false, false, false, false, false, false]
abbrev q38_10 : Array Bool := #[true, true, true, true, true, true, true, true, true, false, true, false, false, false, false, false, false, false]
abbrev q38_11 : Array Bool := #[true, true, true, true, true, true, true, true, true, true, true, false, false, false, false, false, false, false]
abbrev q38_12 : Array Bool := #[true, true, true, true, true, true, true, true, true, true, true, true, false, false, false, false, false, false]
abbrev q38_13 : Array Bool := #[true, true, true, true, true, true, true, true, true, true, true, true, true, false, false, false, false, false]
abbrev q38_14 : Array Bool := #[true, true, true, true, true, true, true, true, true, true, true, true, true, true, false, false, false, false]
abbrev q38_15 : Array Bool := #[true, true, true, true, true, true, true, true, true, true, true, true, true, true, true, false, false, false]
abbrev q38_16 : Array Bool := #[true, true, true, true, true, true, true, true, true, true, true, true, true, true, true, true, false, false]
abbrev q38_17 : Array Bool := #[true, true, true, true, true, true, true, true, true, true, true, true, true, true, true, true, true, false]
abbrev q38_18 : Array Bool := #[true, true, true, true, true, true, true, true, true, true, true, true, true, true, true, true, true, true]
abbrev q38_19 : Array Bool := #[false, false, false, false, false, false, false, false, false]
abbrev q38_20 : Array Bool := #[true, false, false, false, false, false, false, false, false]
abbrev q38_21 : Array Bool := #[true, false, false, true, false, false, false, false, false]
abbrev q38_22 : Array Bool := #[true, false, false, true, true, false, false, false, false]
abbrev q38_23 : Array Bool := #[true, true, false, true, true, false, false, false, false]
abbrev q38_24 : Array Bool := #[true, true, true, true, true, false, false, false, false]
abbrev q38_25 : Array Bool := #[true, true, true, true, true, true, true, true, false]
abbrev q38_26 : Array Bool := #[true, true, true, true, true, true, false, false, false]
abbrev q38_27 : Array Bool := #[true, true, true, true, true, false, true, false, false]
abbrev q38_28 : Array Bool := #[true, true, true, true, true, true, true, false, false]
abbrev q38_29 : Array Bool := #[true, true, true, true, true, false, true, true, false]
abbrev q38_30 : Array Bool := #[true, true, true, true, true, true, true, true, true]
abbrev q38_31 : Array Bool := #[false, false, false, false, false, false, false, false, false, false, false, false, false, false, false, false, false, false, false]
abbrev q38_32 : Array Bool := #[true, false, false, false, false, false, false, false, false, false, false, false, false, false, false, false, false, false, false]
abbrev q38_33 : Array Bool := #[true, true, false, false, false, false, false, false, false, false, false, false, false, false, false, false, false, false, false]
abbrev q38_34 : Array Bool := #[true, true, true, false, false, false, false, false, false, false, false, false, false, false, false, false, false, false, false]
abbrev q38_35 : Array Bool := #[true, true, true, true, false, false, false, false, false, false, false, false, false, false, false, false, false, false, false]
abbrev q38_36 : Array Bool := #[true, true, true, true, true, false, false, false, false, false, false, false, false, false, false, false, false, false, false]
abbrev q38_37 : Array Bool := #[true, true, true, true, true, false, true, false, false, false, false, false, false, false, false, false, false, false, false]
abbrev q38_38 : Array Bool := #[true, true, true, true, true, false, true, true, false, false, false, false, false, false, false, false, false, false, false]
abbrev q38_39 : Array Bool := #[true, true, true, true, true, false, true, true, false, false, false, true, false, false, false, false, false, false, false]
abbrev q38_40 : Array Bool := #[true, true, true, true, true, false, true, true, false, false, false, true, true, false, false, false, false, false, false]
abbrev q38_41 : Array Bool := #[true, true, true, true, true, true, true, true, false, false, false, true, true, false, false, false, false, false, false]
abbrev q38_42 : Array Bool := #[true, true, true, true, true, true, true, true, true, false, false, true, true, false, false, false, false, false, false]
abbrev q38_43 : Array Bool := #[true, true, true, true, true, true, true, true, true, true, false, true, true, false, false, false, false, false, false]
abbrev q38_44 : Array Bool := #[true, true, true, true, true, true, true, true, true, true, true, true, true, false, false, false, false, false, false]
abbrev q38_45 : Array Bool := #[true, true, true, true, true, true, true, true, true, true, true, true, true, true, false, false, false, false, false]
abbrev q38_46 : Array Bool := #[true, true, true, true, true, true, true, true, true, true, true, true, true, true, true, false, false, false, false]
abbrev q38_47 : Array Bool := #[true, true, true, true, true, true, true, true, true, true, true, true, true, true, true, true, false, false, false]
abbrev q38_48 : Array Bool := #[true, true, true, true, true, true, true, true, true, true, true, true, true, true, true, true, true, false, false]
abbrev q38_49 : Array Bool := #[true, true, true, true, true, true, true, true, true, true, true, true, true, true, true, true, true, true, false]
abbrev q38_50 : Array Bool := #[true, true, true, true, true, true, true, true, true, true, true, true, true, true, true, true, true, true, true]
abbrev q38_51 : Array Bool := #[false, false, false, false, false, false, false, false, false, false]
abbrev q38_52 : Array Bool := #[true, false, false, false, false, false, false, false, false, false]
abbrev q38_53 : Array Bool := #[true, false, true, false, false, false, false, false, false, false]
abbrev q38_54 : Array Bool := #[true, false, true, true, false, false, false, false, false, false]
abbrev q38_55 : Array Bool := #[true, false, true, true, true, false, false, false, false, false]
abbrev q38_56 : Array Bool := #[true, true, true, true, true, false, false, false, false, false]
abbrev q38_57 : Array Bool := #[true, true, true, true, true, true, false, false, false, false]
abbrev q38_58 : Array Bool := #[true, true, true, true, true, true, true, false, false, false]
abbrev q38_59 : Array Bool := #[true, true, true, true, true, true, true, true, false, false]
abbrev q38_60 : Array Bool := #[true, true, true, true, true, true, true, true, true, false]
abbrev q38_61 : Array Bool := #[true, true, true, true, true, true, true, true, true, true]
/-! ### impl_TrimCircuit: function 38 -/
mutual
def impl_TrimCircuit.l0 : Nat → Int → List Bool → List Int → Int → Int → Int → List (S46) → List Int → Option (Int × (List (S46)) × List Int)
 | 0, _, _, _, _, _, _, _, _ => none
 | k + 1, x3, x4, x29, x30, x31, x102000, x102001, x102002 => if x31 < x30 then (if 0 ≤ x31 then (if x31 < (x29.length : Int) then (if 0 ≤ (rd x29 x31) then (if (rd x29 x31) < (x4.length : Int) then (impl_TrimCircuit.l0 k x3 (x4.set ((rd x29 x31) : Int).toNat true) x29 x30 (wrap64 (x31 + 1)) x102000 x102001 x102002) else (none)) else (none)) else (none)) else (none)) else (impl_TrimCircuit.l1 k x3 x4 (wrap64 ((x102001.length : Int) - 1)) x102000 x102001 x102002)
def impl_TrimCircuit.l1 : Nat → Int → List Bool → Int → Int → List (S46) → List Int → Option (Int × (List (S46)) × List Int)
 | 0, _, _, _, _, _, _ => none
 | k + 1, x3, x4, x7, x102000, x102001, x102002 => if x7 ≥ 0 then (if 0 ≤ (wrap64 (x3 + x7)) then (if (wrap64 (x3 + x7)) < (x4.length : Int) then (if rdOf false x4 (wrap64 (x3 + x7)) = true then (if 0 ≤ x7 then (if x7 < (x102001.length : Int) then (if 0 ≤ ((rd_T46 x102001 x7).f1) then (if ((rd_T46 x102001 x7).f1) < (x4.length : Int) then (if 0 ≤ ((rd_T46 x102001 x7).f2) then (if ((rd_T46 x102001 x7).f2) < (x4.length : Int) then (impl_TrimCircuit.l1 k x3 ((x4.set (((rd_T46 x102001 x7).f1) : Int).toNat true).set (((rd_T46 x102001 x7).f2) : Int).toNat true) (wrap64 (x7 - 1)) x102000 x102001 x102002) else (none)) else (none)) else (none)) else (none)) else (none)) else (none)) else (impl_TrimCircuit.l1 k x3 x4 (wrap64 (x7 - 1)) x102000 x102001 x102002)) else (none)) else (none)) else (if 0 ≤ (x4.length : Int) then (if ((x4.length : Int) : Int).toNat ≤ 35184372088832 then (impl_TrimCircuit.l2 k x3 x4 (List.replicate ((x4.length : Int) : Int).toNat 0) x3 0 x102000 x102001 x102002 x102000) else (none)) else (none))
def impl_TrimCircuit.l2 : Nat → Int → List Bool → List Int → Int → Int → Int → List (S46) → List Int → Int → Option (Int × (List (S46)) × List Int)
 | 0, _, _, _, _, _, _, _, _, _ => none
 | k + 1, x3, x4, x9, x75, x76, x102000, x102001, x102002, x118000 => if x76 < x75 then (if 0 ≤ x76 then (if x76 < (x9.length : Int) then (impl_TrimCircuit.l2 k x3 x4 (x9.set (x76 : Int).toNat x76) x75 (wrap64 (x76 + 1)) x102000 x102001 x102002 x118000) else (none)) else (none)) else (impl_TrimCircuit.l3 k x3 x4 x9 x102001 (x102001.length : Int) 0 x102000 x102001 x102002 x118000 ([] : List (S46)))
def impl_TrimCircuit.l3 : Nat → Int → List Bool → List Int → List (S46) → Int → Int → Int → List (S46) → List Int → Int → List (S46) → Option (Int × (List (S46)) × List Int)
 | 0, _, _, _, _, _, _, _, _, _, _, _ => none
 | k + 1, x3, x4, x9, x85, x86, x87, x102000, x102001, x102002, x118000, x118001 => if x87 < x86 then (if 0 ≤ x87 then (if x87 < (x85.length : Int) then (if 0 ≤ (wrap64 (x3 + x87)) then (if (wrap64 (x3 + x87)) < (x4.length : Int) then (if rdOf false x4 (wrap64 (x3 + x87)) = true then (if 0 ≤ ((rd_T46 x85 x87).f1) then (if ((rd_T46 x85 x87).f1) < (x9.length : Int) then (if 0 ≤ ((rd_T46 x85 x87).f2) then (if ((rd_T46 x85 x87).f2) < (x9.length : Int) then (if x118001.length < 1599289640401 then ((some (x118001 ++ [(⟨(⟨(rd_T46 x85 x87).f0.f0, (rd_T46 x85 x87).f0.f1, (rd_T46 x85 x87).f0.f2, (rd_T46 x85 x87).f0.f3, (rd_T46 x85 x87).f0.f4, (rd_T46 x85 x87).f0.f5, (rd_T46 x85 x87).f0.f6, (rd_T46 x85 x87).f0.f7, (rd_T46 x85 x87).f0.f8⟩ : S23), rd x9 ((rd_T46 x85 x87).f1), rd x9 ((rd_T46 x85 x87).f2)⟩ : S46)] : List (S46))).bind fun y124 => (if (wrap64 (x3 + x87)) < (x9.length : Int) then (impl_TrimCircuit.l3 k x3 x4 (x9.set ((wrap64 (x3 + x87)) : Int).toNat (wrap64 (wrap64 (2 + x118000) + (y124.length : Int)))) x85 x86 (wrap64 (x87 + 1)) x102000 x102001 x102002 x118000 y124) else (none))) else (none)) else (none)) else (none)) else (none)) else (none)) else (impl_TrimCircuit.l3 k x3 x4 x9 x85 x86 (wrap64 (x87 + 1)) x102000 x102001 x102002 x118000 x118001)) else (none)) else (none)) else (none)) else (none)) else (impl_TrimCircuit.l4 k x9 x102002 (x102002.length : Int) 0 x118000 x118001 ([] : List Int))
def impl_TrimCircuit.l4 : Nat → List Int → List Int → Int → Int → Int → List (S46) → List Int → Option (Int × (List (S46)) × List Int)
 | 0, _, _, _, _, _, _, _ => none
 | k + 1, x9, x118, x119, x120, x118000, x118001, x118002 => if x120 < x119 then (if 0 ≤ x120 then (if x120 < (x118.length : Int) then (if 0 ≤ (rd x118 x120) then (if (rd x118 x120) < (x9.length : Int) then (if x118002.length < 17592186044416 then (impl_TrimCircuit.l4 k x9 x118 x119 (wrap64 (x120 + 1)) x118000 x118001 (x118002 ++ [rd x9 (rd x118 x120)])) else (none)) else (none)) else (none)) else (none)) else (none)) else (some (x118000, x118001, x118002))
end
def impl_TrimCircuit.f (k : Nat) (a0_0 : Int) (l0_1 : List (S46)) (l0_2 : List Int) : Option (Int × (List (S46)) × List Int) := (impl_IsCircuit.f k a0_0 l0_1 l0_2).bind fun t103 => (if t103 = true then (if 0 ≤ (wrap64 ((wrap64 (3 + a0_0)) + (l0_1.length : Int))) then (if (wrap64 ((wrap64 (3 + a0_0)) + (l0_1.length : Int)) : Int).toNat ≤ 281474976710656 then (impl_TrimCircuit.l0 k (wrap64 (3 + a0_0)) (List.replicate (wrap64 ((wrap64 (3 + a0_0)) + (l0_1.length : Int)) : Int).toNat false) l0_2 (l0_2.length : Int) 0 a0_0 l0_1 l0_2) else (none)) else (none)) else (some (0, ([] : List (S46)), ([] : List Int))))
def impl_TrimCircuit.T14 : Bool × List (List Nat × List Nat) := (true, [([], []), ([], []), ([1], [1]), ([], []), ([2, 3], [2, 3]), ([4], [4]), ([5], [5]), ([], []), ([], []), ([8], [8]), ([], []), ([9, 10], [9, 10]), ([11], [11]), ([12], [12]), ([0, 6, 0, 1, 2, 3, 4, 5, 6, 13], [0, 6]), ([14, 0, 1, 2, 3, 4, 5, 6, 13], [14]), ([7, 13, 0, 1, 2, 3, 4, 5, 6, 7, 8, 9, 10, 11, 12, 13, 14, 15], [7, 13]), ([16, 15, 0, 1, 2, 3, 4, 5, 6, 7, 8, 9, 10, 11, 12, 13, 14, 15], [16])])
def impl_TrimCircuit.B14 : List Nat := [0, 0, 2, 0, 14, 30, 62, 0, 0, 256, 0, 1792, 3840, 7936, 16255, 32639, 65535, 131071]
theorem impl_TrimCircuit.tab14 : rtab .any (opsOf Try.f38 14) = impl_TrimCircuit.T14 := by kernel_rfl
theorem impl_TrimCircuit.bits14 : waitsOk impl_TrimCircuit.T14.2 impl_TrimCircuit.B14 = true := by kernel_rfl
def impl_TrimCircuit.T15 : Bool × List (List Nat × List Nat) := (true, [([], []), ([0], [0]), ([1], [1]), ([], []), ([3], [3]), ([4, 4], [4]), ([], []), ([6, 2, 0, 1, 2, 6], [2, 6]), ([5, 7, 0, 1, 2, 3, 4, 5, 6, 7], [5])])
def impl_TrimCircuit.B15 : List Nat := [0, 1, 3, 0, 8, 24, 0, 71, 255]
theorem impl_TrimCircuit.tab15 : rtab .any (opsOf Try.f38 15) = impl_TrimCircuit.T15 := by kernel_rfl
theorem impl_TrimCircuit.bits15 : waitsOk impl_TrimCircuit.T15.2 impl_TrimCircuit.B15 = true := by kernel_rfl
def impl_TrimCircuit.T25 : Bool × List (List Nat × List Nat) := (true, [([], []), ([], []), ([], []), ([1, 2], [1, 2]), ([], []), ([4], [4]), ([], []), ([], []), ([7], [7]), ([6, 8], [6, 8]), ([9], [9]), ([], []), ([], []), ([12], [12]), ([11, 13], [11, 13]), ([14], [14]), ([5, 10, 15], [5, 10, 15]), ([0, 3, 0, 1, 2, 3, 4, 5, 6, 7, 8, 9, 10, 11, 12, 13, 14, 15, 16], [0, 3]), ([17, 16, 16, 0, 1, 2, 3, 4, 5, 6, 7, 8, 9, 10, 11, 12, 13, 14, 15, 16], [16, 17])])
def impl_TrimCircuit.B25 : List Nat := [0, 0, 0, 6, 0, 16, 0, 0, 128, 448, 960, 0, 0, 4096, 14336, 30720, 65520, 131071, 262143]
theorem impl_TrimCircuit.tab25 : rtab .any (opsOf Try.f38 25) = impl_TrimCircuit.T25 := by kernel_rfl
theorem impl_TrimCircuit.bits25 : waitsOk impl_TrimCircuit.T25.2 impl_TrimCircuit.B25 = true := by kernel_rfl
def impl_TrimCircuit.T30 : Bool × List (List Nat × List Nat) := (true, [([], []), ([0], [0]), ([], []), ([], []), ([2, 3], [2, 3]), ([4], [4]), ([5], [5]), ([1, 6], [1, 6]), ([0, 1, 2, 3, 4, 5, 6, 7], []), ([8, 7, 7, 0, 1, 2, 3, 4, 5, 6, 7], [7, 8])])
def impl_TrimCircuit.B30 : List Nat := [0, 1, 0, 0, 12, 28, 60, 127, 255, 511]
theorem impl_TrimCircuit.tab30 : rtab .any (opsOf Try.f38 30) = impl_TrimCircuit.T30 := by kernel_rfl
theorem impl_TrimCircuit.bits30 : waitsOk impl_TrimCircuit.T30.2 impl_TrimCircuit.B30 = true := by kernel_rfl
set_option maxHeartbeats 8000000 in
set_option maxRecDepth 100000 in
theorem impl_TrimCircuit.calls (k : Nat) (a0_0 : Int) (A0_1 : Option Addr) (c0_1 : Nat) (l0_1 : List (S46)) (A0_2 : Option Addr) (c0_2 : Nat) (l0_2 : List Int) (r1 : Int) (r2 : List (S46)) (r3 : List Int) (w : World) (hr0_1 : Kd.C k46 w A0_1 l0_1.length l0_1) (hc0_1 : l0_1.length ≤ c0_1) (hr0_2 : Kd.C (Kd.int .i64) w A0_2 l0_2.length l0_2) (hc0_2 : l0_2.length ≤ c0_2) (h : impl_TrimCircuit.f k a0_0 l0_1 l0_2 = some (r1, r2, r3)) :
  Calls Try.prog 38 #[.agg #[.int .i64 a0_0, .slice A0_1 l0_1.length c0_1, .slice A0_2 l0_2.length c0_2]] w fun e w' => ∃ v1_ v2_ : Value, e = .returned (.agg #[.int .i64 r1, v1_, v2_]) ∧ Kd.R k46 46 w' w.heap.size (fun _ => True) v1_ r2 ∧ Kd.R (Kd.int .i64) 3 w' w.heap.size (fun _ => True) v2_ r3 ∧ Below w.heap.size w w' := by
 have hu35 := Try.underlying35; have hu46 := Try.underlying46; have hu23 := Try.underlying23; have HR0_1 := am hr0_1; have HC0_1 := am hc0_1; clear hr0_1 hc0_1; have HR0_2 := am hr0_2; have HC0_2 := am hc0_2; clear hr0_2 hc0_2; have HB := am (Below.refl w.heap.size w)
 have H : ((impl_IsCircuit.f k a0_0 l0_1 l0_2).bind fun t103 => (if t103 = true then (if 0 ≤ (wrap64 ((wrap64 (3 + a0_0)) + (l0_1.length : Int))) then (if (wrap64 ((wrap64 (3 + a0_0)) + (l0_1.length : Int)) : Int).toNat ≤ 281474976710656 then (impl_TrimCircuit.l0 k (wrap64 (3 + a0_0)) (List.replicate (wrap64 ((wrap64 (3 + a0_0)) + (l0_1.length : Int)) : Int).toNat false) l0_2 (l0_2.length : Int) 0 a0_0 l0_1 l0_2) else (none)) else (none)) else (some (0, ([] : List (S46)), ([] : List Int))))) = some (r1, r2, r3) := h
 clear h
 replace H := Option.bind_eq_some_iff.mp H
 obtain ⟨t103, A20, H⟩ := H
 replace H : (if t103 = true then (if 0 ≤ (wrap64 ((wrap64 (3 + a0_0)) + (l0_1.length : Int))) then (if (wrap64 ((wrap64 (3 + a0_0)) + (l0_1.length : Int)) : Int).toNat ≤ 281474976710656 then (impl_TrimCircuit.l0 k (wrap64 (3 + a0_0)) (List.replicate (wrap64 ((wrap64 (3 + a0_0)) + (l0_1.length : Int)) : Int).toNat false) l0_2 (l0_2.length : Int) 0 a0_0 l0_1 l0_2) else (none)) else (none)) else (some (0, ([] : List (S46)), ([] : List Int)))) = some (r1, r2, r3) := H
 have A2 := am A20; clear A20
 by_cases c3 : t103 = true
 ·subst c3
  have H1 : (if 0 ≤ (wrap64 ((wrap64 (3 + a0_0)) + (l0_1.length : Int))) then (if (wrap64 ((wrap64 (3 + a0_0)) + (l0_1.length : Int)) : Int).toNat ≤ 281474976710656 then (impl_TrimCircuit.l0 k (wrap64 (3 + a0_0)) (List.replicate (wrap64 ((wrap64 (3 + a0_0)) + (l0_1.length : Int)) : Int).toNat false) l0_2 (l0_2.length : Int) 0 a0_0 l0_1 l0_2) else (none)) else (none)) = some (r1, r2, r3) := by rw [if_pos rfl] at H; exact H
  clear H; have H := H1; clear H1
  obtain ⟨ji4, hji4⟩ : ∃ j_ : Int, (wrap64 ((wrap64 (3 + a0_0)) + (l0_1.length : Int))) = j_ := ⟨_, rfl⟩
  replace H : (if 0 ≤ (ji4) then (if (ji4 : Int).toNat ≤ 281474976710656 then (impl_TrimCircuit.l0 k (wrap64 (3 + a0_0)) (List.replicate (ji4 : Int).toNat false) l0_2 (l0_2.length : Int) 0 a0_0 l0_1 l0_2) else (none)) else (none)) = some (r1, r2, r3) := by first | (rw [hji4] at H; exact H) | (simp only [hji4] at H ⊢; exact H)
  (try rw [hji4] at A2)
  have hji4w : (IntKind.i64.wrap ((wrap64 (3 + a0_0)) + (l0_1.length : Int))) = ji4 := (i64_w _).trans hji4
  by_cases c5 : 0 ≤ (ji4)
  ·rw [if_pos c5] at H
   have c5b0 := eq_true c5
   have c5b1 : decide (0 ≤ (ji4)) = true := decide_eq_true c5
   clear c5
   by_cases c6 : (ji4 : Int).toNat ≤ 281474976710656
   ·rw [if_pos c6] at H
    have c6b0 := eq_true c6
    have c6b1 : decide ((ji4 : Int).toNat ≤ 281474976710656) = true := decide_eq_true c6
    clear c6
    obtain ⟨y104, hy104⟩ : ∃ y_ : List Bool, y_ = (List.replicate (ji4 : Int).toNat false) := ⟨_, rfl⟩
    replace H : (impl_TrimCircuit.l0 k (wrap64 (3 + a0_0)) y104 l0_2 (l0_2.length : Int) 0 a0_0 l0_1 l0_2) = some (r1, r2, r3) := by first | (rw [hy104]; with_reducible exact H) | (have H2_ := (Option.bind_some _ _).symm.trans H; rw [hy104]; with_reducible exact H2_) | (have H2_ := (Option.bind_some _ _).symm.trans H; with_reducible exact H2_) | with_reducible exact H | (rw [hy104]; exact H) | exact H
    have Ny104 := am hy104; clear hy104
    have H' := am H
    clear H
    go_enter Try.func38, Try.ntmps38
    go_wp2_with (first | ((with_reducible refine gate_dst (N := 1) rfl ?_); refine box_event ?hg (N := 1) ?hd (cs := #[.int .i64 a0_0, .slice A0_1 l0_1.length c0_1, .slice A0_2 l0_2.length c0_2]) (t := 35) ?hr ?_; (case hd => rfl); (case hg => rfl); (case hr => first | (go_simp; done) | (go_simp; rfl)); intro gb101 hg w7 hbox hb; have n0_ := am (below_step (bB HB.out) hb); have n1_ := am (hbox); have n2_ := am ((by rw [hg]; exact (below_size (bB HB.out)) : w.heap.size ≤ gb101)); have n3_ := am ((by rw [hg]; exact (below_size (bB HB.out)) : w.heap.size ≤ gb101)); clear HB; have HB := n0_; have BK101 := n1_; have GW101 := n2_; have GE101 := n3_; clear n0_ n1_ n2_ n3_; clear hb hbox hg) | ((with_reducible refine gate_dst (N := 2) rfl ?_); refine box_event ?hg (N := 2) ?hd (cs := #[.int .i64 0, .slice none 0 0, .slice none 0 0]) (t := 35) ?hr ?_; (case hd => rfl); (case hg => rfl); (case hr => first | (go_simp; done) | (go_simp; rfl)); intro gb102 hg w8 hbox hb; have n0_ := am (blk_below (bA BK101.out) hb); have n1_ := am (below_step (bB HB.out) hb); have n2_ := am (hbox); have n3_ := am ((by rw [hg]; exact (below_size (bB HB.out)) : w.heap.size ≤ gb102)); have n4_ := am ((by rw [hg]; exact (below_size (bB HB.out)) : w.heap.size ≤ gb102)); have n5_ := am ((by rw [hg]; exact Nat.ne_of_lt (blk_lt (g := gb101) (o := .cells #[.int .i64 a0_0, .slice A0_1 l0_1.length c0_1, .slice A0_2 l0_2.length c0_2] 35 (0, 0)) (bA BK101.out)) : gb101 ≠ gb102)); have n6_ := am ((by rw [hg]; exact Nat.ne_of_gt (blk_lt (g := gb101) (o := .cells #[.int .i64 a0_0, .slice A0_1 l0_1.length c0_1, .slice A0_2 l0_2.length c0_2] 35 (0, 0)) (bA BK101.out)) : gb102 ≠ gb101)); clear BK101; clear HB; have BK101 := n0_; have HB := n1_; have BK102 := n2_; have GW102 := n3_; have GE102 := n4_; have NB101_102 := n5_; have NB102_101 := n6_; clear n0_ n1_ n2_ n3_ n4_ n5_ n6_; clear hb hbox hg; have hnb9 := NB101_102.out; have hnc9 := NB102_101.out; have hcz10_0 : w8.cell? ⟨gb101, 0, none⟩ = some (.int .i64 a0_0) := (blk_cell BK101.out 0).trans rfl; have hcz10_1 : w8.cell? ⟨gb101, 1, none⟩ = some (.slice A0_1 l0_1.length c0_1) := (blk_cell BK101.out 1).trans rfl; have hcz10_2 : w8.cell? ⟨gb101, 2, none⟩ = some (.slice A0_2 l0_2.length c0_2) := (blk_cell BK101.out 2).trans rfl; have hfz10_0 := blk_frozen BK101.out 0; have hfz10_1 := blk_frozen BK101.out 1; have hfz10_2 := blk_frozen BK101.out 2) | ((with_reducible refine gate_callee (f := 20) rfl ?_); refine goesL_ (some 16) rfl rfl Try.func20 (by kernel_rfl) rfl #[.agg #[.int .i64 a0_0, .slice A0_1 l0_1.length c0_1, .slice A0_2 l0_2.length c0_2]] rfl bE ?_; (with_reducible refine (impl_IsCircuit.calls k a0_0 _ _ l0_1 _ _ l0_2 true _ ?side1 ?side2 ?side3 ?side4 A2.out).mono ?_); (case side1 => exact bD ((Kd.C_below HR0_1.out HB.out))); (case side2 => exact HC0_1.out); (case side3 => exact bD ((Kd.C_below HR0_2.out HB.out))); (case side4 => exact HC0_2.out); rintro e w11 ⟨rfl, hb⟩; refine ⟨_, rfl, ?_⟩; have n0_ := am (blk_below (bA BK101.out) hb); have n1_ := am (blk_below (bA BK102.out) hb); have n2_ := am (below_step (bB HB.out) hb); clear BK101; clear BK102; clear HB; have BK101 := n0_; have BK102 := n1_; have HB := n2_; clear n0_ n1_ n2_; (try clear hb); (try clear hb2); (try clear hk); (try clear hi); have hcz12_0 : w11.cell? ⟨gb101, 0, none⟩ = some (.int .i64 a0_0) := (blk_cell BK101.out 0).trans rfl; have hcz12_1 : w11.cell? ⟨gb101, 1, none⟩ = some (.slice A0_1 l0_1.length c0_1) := (blk_cell BK101.out 1).trans rfl; have hcz12_2 : w11.cell? ⟨gb101, 2, none⟩ = some (.slice A0_2 l0_2.length c0_2) := (blk_cell BK101.out 2).trans rfl; have hfz12_0 := blk_frozen BK101.out 0; have hfz12_1 := blk_frozen BK101.out 1; have hfz12_2 := blk_frozen BK101.out 2) | ((with_reducible refine gate_dst (N := 27) rfl ?_); refine Kd.R_make Kd.bool _ 4 rfl (N := 27) rfl 77 _ _ rfl ji4 rfl rfl Try.underlying77 (.bool false) 1 info4 rfl (by decide) (by omega) false (ok := fun _ => True) (okp := fun _ => True) rfl (fun _ hk => hk) trivial (of_decide_eq_true (by first | with_reducible assumption | assumption)) (Nat.le_trans (Nat.mul_le_mul_right _ (of_decide_eq_true (by first | with_reducible assumption | assumption) : ji4.toNat ≤ 281474976710656)) (by omega)) (Below.refl _ _) (Nat.le_refl _) ?_; intro v105 w13 ho14 hb hg_ hnew_; clear hg_ hnew_; (first | rw [← Ny104.out] at ho14 | (simp only [Int.reduceToNat] at ho14; rw [← Ny104.out] at ho14)); have n0_ := am (Kd.R_lower ho14 (below_size (bB HB.out))); have n1_ := am (blk_below (bA BK101.out) hb); have n2_ := am (blk_below (bA BK102.out) hb); have n3_ := am (below_step (bB HB.out) hb); clear BK101; clear BK102; clear HB; have HO106 := n0_; have BK101 := n1_; have BK102 := n2_; have HB := n3_; clear n0_ n1_ n2_ n3_; clear hb ho14; have hcz15_0 : w13.cell? ⟨gb101, 0, none⟩ = some (.int .i64 a0_0) := (blk_cell BK101.out 0).trans rfl; have hcz15_1 : w13.cell? ⟨gb101, 1, none⟩ = some (.slice A0_1 l0_1.length c0_1) := (blk_cell BK101.out 1).trans rfl; have hcz15_2 : w13.cell? ⟨gb101, 2, none⟩ = some (.slice A0_2 l0_2.length c0_2) := (blk_cell BK101.out 2).trans rfl; have hfz15_0 := blk_frozen BK101.out 0; have hfz15_1 := blk_frozen BK101.out 1; have hfz15_2 := blk_frozen BK101.out 2))
    go_loopg [31] k (fun kq v31 w' => ∃ (x4_1 : List Bool) (x31_1 : Int), v31 = .int .i64 x31_1 ∧ Aside0 (impl_TrimCircuit.l0 kq (wrap64 (3 + a0_0)) x4_1 l0_2 (l0_2.length : Int) x31_1 a0_0 l0_1 l0_2 = some (r1, r2, r3)) ∧ Aside0 (kq ≤ k) ∧ Aside0 (Kd.R Kd.bool 4 w' w.heap.size (fun _ => True) v105 x4_1) ∧ Aside0 (w'.heap[gb101]? = some (.cells #[.int .i64 a0_0, (.slice A0_1 l0_1.length c0_1), (.slice A0_2 l0_2.length c0_2)] 35 (0, 0))) ∧ Aside0 (w'.heap[gb102]? = some (.cells #[.int .i64 0, (.slice none 0 0), (.slice none 0 0)] 35 (0, 0))) ∧ Aside0 (Below w.heap.size w w'))
    case atStart => exact ⟨(y104), (0), (by first | rfl | (simp; done) | (simp [*]; done)), H', ⟨Nat.le_refl _⟩, ⟨by (with_reducible repeat (first | apply Kd.R_alloc | apply Kd.R_drewN | apply Kd.R_drew)); exact HO106.out⟩, ⟨bA BK101.out⟩, ⟨bA BK102.out⟩, ⟨bB HB.out⟩⟩
    case round =>
     clear H'
     try clear c2
     try clear p2
     try clear c3
     try clear c5
     try clear c5b0
     try clear c5b1
     try clear c6
     try clear c6b0
     try clear c6b1
     try clear p6
     try clear c9
     try clear hcz10_0
     try clear hcz10_1
     try clear hcz10_2
     try clear hcz12_0
     try clear hcz12_1
     try clear hcz12_2
     try clear hcz15_0
     try clear hcz15_1
     try clear hcz15_2
     try clear hfz10_0
     try clear hfz10_1
     try clear hfz10_2
     try clear hfz12_0
     try clear hfz12_1
     try clear hfz12_2
     try clear hfz15_0
     try clear hfz15_1
     try clear hfz15_2
     obtain ⟨x4_1, x31_1, rfl, HA, HK1, HO_4, BK101, BK102, HB⟩ := hrel
     cases gk with
     | zero => exact absurd HA.out (by simp [impl_TrimCircuit.l0])
     | succ k1 =>
      have H := HA.out; clear HA
      simp only [impl_TrimCircuit.l0] at H
      by_cases c16 : x31_1 < (l0_2.length : Int)
      ·rw [if_pos c16] at H
       have c16b0 : decide (x31_1 < (l0_2.length : Int)) = true := decide_eq_true c16
       clear c16
       by_cases c17 : 0 ≤ x31_1
       ·rw [if_pos c17] at H
        have c17b0 : decide (0 ≤ x31_1) = true := decide_eq_true c17
        clear c17
        by_cases c18 : x31_1 < (l0_2.length : Int)
        ·rw [if_pos c18] at H
         have c18b0 : decide (x31_1 < (l0_2.length : Int)) = true := decide_eq_true c18
         clear c18
         by_cases c19 : 0 ≤ (rd l0_2 x31_1)
         ·rw [if_pos c19] at H
          have c19b0 : decide (0 ≤ (rd l0_2 x31_1)) = true := decide_eq_true c19
          clear c19
          by_cases c20 : (rd l0_2 x31_1) < (x4_1.length : Int)
          ·rw [if_pos c20] at H
           have c20b0 : decide ((rd l0_2 x31_1) < (x4_1.length : Int)) = true := decide_eq_true c20
           clear c20
           obtain ⟨y108, hy108⟩ : ∃ y_ : List Bool, y_ = (x4_1.set ((rd l0_2 x31_1) : Int).toNat true) := ⟨_, rfl⟩
           replace H : (impl_TrimCircuit.l0 k1 (wrap64 (3 + a0_0)) y108 l0_2 (l0_2.length : Int) (wrap64 (x31_1 + 1)) a0_0 l0_1 l0_2) = some (r1, r2, r3) := by first | (rw [hy108]; with_reducible exact H) | (have H2_ := (Option.bind_some _ _).symm.trans H; rw [hy108]; with_reducible exact H2_) | (have H2_ := (Option.bind_some _ _).symm.trans H; with_reducible exact H2_) | with_reducible exact H | (rw [hy108]; exact H) | exact H
           have Ny108 := am hy108; clear hy108
           have H' := am H
           clear H
           have p107 : 0 ≤ (x31_1 : Int) := of_decide_eq_true (by first | with_reducible assumption | assumption)
           have q107 : x31_1 < (l0_2.length : Int) := of_decide_eq_true (by first | with_reducible assumption | assumption)
           obtain ⟨ad107, e107, hx107_0⟩ := Kd.at_int HR0_2.out x31_1 p107 q107
           cases e107
           replace hx107_0 := (HB.out.cell (World.block_lt_of_cell? w _ hx107_0)).trans hx107_0
           replace p107 := eq_true p107
           replace q107 := eq_true q107
           have p21 : 0 ≤ ((rd l0_2 x31_1) : Int) := of_decide_eq_true (by first | with_reducible assumption | assumption)
           have q21 : ((rd l0_2 x31_1) : Int) < ((x4_1.length : Int) : Int) := of_decide_eq_true (by first | with_reducible assumption | assumption)
           obtain ⟨go21, co21, eo21, gb21, gl21, cl21, HG21⟩ := Kd.R_form HO_4.out (by omega)
           (first | cases eo21 | (injection eo21 with ea_ en_ ec_; (first | subst ea_ | (injection ea_ with ea_; subst ea_)); subst ec_; clear en_))
           have GB21 := am gb21; have GG21 := am HG21; clear gb21 gl21 HG21
           obtain ⟨hx21_0, hf21_0⟩ := Kd.R_celln false HO_4.out ((rd l0_2 x31_1) : Int) p21 q21
           replace p21 := eq_true p21
           replace q21 := eq_true q21
           have HP22 := Kd.R_putg HO_4.out ((rd l0_2 x31_1) : Int) true
           go_wp2_with (first | ((with_reducible refine gate_store (t := 4) (p := 37) rfl ?_); refine store_event (t := 4) (p := 37) (v := ?vo_w23) (w1 := (wr.setCell ⟨go21, ((rd l0_2 x31_1) : Int).toNat, none⟩ (.bool true))) ?hg ?ho ?hn ?hr ?_; (case ho => rfl); (case hg => rfl); (case hn => rfl); (case hr => first | (go_simp; done) | (go_simp; rfl)); intro w23 hw; have hg : wr.grownBy w23 (some go21) := (by rw [hw]; exact HP22.2); have hp_ : Kd.R Kd.bool 4 w23 w.heap.size (fun _ => True) (.slice (some ⟨go21, 0, none⟩) x4_1.length co21) y108 := (by rw [hw, Ny108.out]; exact HP22.1); clear HP22; have n0_ := am (hp_); have n1_ := am (blk_grown (g := gb101) (o := .cells #[.int .i64 a0_0, .slice A0_1 l0_1.length c0_1, .slice (some ad107) l0_2.length c0_2] 35 (0, 0)) (bA BK101.out) hg (Kd.R_ne HO_4.out BK101.out (by decide))); have n2_ := am (blk_grown (g := gb102) (o := .cells #[.int .i64 0, .slice none 0 0, .slice none 0 0] 35 (0, 0)) (bA BK102.out) hg (Kd.R_ne HO_4.out BK102.out (by decide))); have n3_ := am ((by rw [hw]; exact below_set (HB.out) GB21.out : Below w.heap.size w w23)); clear HO_4; clear BK101; clear BK102; clear HB; have HO_4 := n0_; have BK101 := n1_; have BK102 := n2_; have HB := n3_; clear n0_ n1_ n2_ n3_; clear hg hw hp_))
           go_roundg k1
           case measure => have := HK1.out; omega
           case rel => exact ⟨(y108), (wrap64 (x31_1 + 1)), (by first | rfl | (simp; done) | (simp [*]; done)), H', ⟨by have := HK1.out; omega⟩, ⟨by (with_reducible repeat (first | apply Kd.R_alloc | apply Kd.R_drewN | apply Kd.R_drew)); exact HO_4.out⟩, ⟨bA BK101.out⟩, ⟨bA BK102.out⟩, ⟨bB HB.out⟩⟩
          ·rw [if_neg c20] at H
           exact absurd H (by simp)
         ·rw [if_neg c19] at H
          exact absurd H (by simp)
        ·rw [if_neg c18] at H
         exact absurd H (by simp)
       ·rw [if_neg c17] at H
        exact absurd H (by simp)
      ·rw [if_neg c16] at H
       have c16b0 : decide (x31_1 < (l0_2.length : Int)) = false := decide_eq_false c16
       clear c16
       have H' := am H
       clear H; have hnb24 := NB101_102.out; have hnc24 := NB102_101.out
       have hcz25_0 : wr.cell? ⟨gb101, 0, none⟩ = some (.int .i64 a0_0) := (blk_cell BK101.out 0).trans rfl
       have hcz25_1 : wr.cell? ⟨gb101, 1, none⟩ = some (.slice A0_1 l0_1.length c0_1) := (blk_cell BK101.out 1).trans rfl
       have hcz25_2 : wr.cell? ⟨gb101, 2, none⟩ = some (.slice A0_2 l0_2.length c0_2) := (blk_cell BK101.out 2).trans rfl
       have hfz25_0 := blk_frozen BK101.out 0; have hfz25_1 := blk_frozen BK101.out 1; have hfz25_2 := blk_frozen BK101.out 2
       go_wp2
       go_loopg [7] k1 (fun kq v7 w' => ∃ (x4_2 : List Bool) (x7_2 : Int), v7 = .int .i64 x7_2 ∧ Aside0 (impl_TrimCircuit.l1 kq (wrap64 (3 + a0_0)) x4_2 x7_2 a0_0 l0_1 l0_2 = some (r1, r2, r3)) ∧ Aside0 (kq ≤ k1) ∧ Aside0 (Kd.R Kd.bool 4 w' w.heap.size (fun _ => True) v105 x4_2) ∧ Aside0 (w'.heap[gb101]? = some (.cells #[.int .i64 a0_0, (.slice A0_1 l0_1.length c0_1), (.slice A0_2 l0_2.length c0_2)] 35 (0, 0))) ∧ Aside0 (w'.heap[gb102]? = some (.cells #[.int .i64 0, (.slice none 0 0), (.slice none 0 0)] 35 (0, 0))) ∧ Aside0 (Below w.heap.size w w'))
       case atStart => exact ⟨(x4_1), (wrap64 ((l0_1.length : Int) - 1)), (by first | rfl | (simp; done) | (simp [*]; done)), H', ⟨Nat.le_refl _⟩, ⟨by (with_reducible repeat (first | apply Kd.R_alloc | apply Kd.R_drewN | apply Kd.R_drew)); exact HO_4.out⟩, ⟨bA BK101.out⟩, ⟨bA BK102.out⟩, ⟨bB HB.out⟩⟩
       case round =>
        clear H'
        try clear c1
        try clear p1
        try clear q1
        try clear hx1
        try clear c2
        try clear p2
        try clear q2
        try clear hx2
        try clear hf2
        try clear c3
        try clear c5
        try clear c5b0
        try clear c5b1
        try clear c6
        try clear c6b0
        try clear c6b1
        try clear p6
        try clear c9
        try clear p10
        try clear q10
        try clear hx10
        try clear c16
        try clear c16b0
        try clear c17
        try clear c17b0
        try clear c18
        try clear c18b0
        try clear c19
        try clear c19b0
        try clear c20
        try clear c20b0
        try clear p21
        try clear q21
        try clear hx21
        try clear hf21
        try clear c24
        try clear hcz10_0
        try clear hcz10_1
        try clear hcz10_2
        try clear hcz12_0
        try clear hcz12_1
        try clear hcz12_2
        try clear hcz15_0
        try clear hcz15_1
        try clear hcz15_2
        try clear hcz25_0
        try clear hcz25_1
        try clear hcz25_2
        try clear hfz10_0
        try clear hfz10_1
        try clear hfz10_2
        try clear hfz12_0
        try clear hfz12_1
        try clear hfz12_2
        try clear hfz15_0
        try clear hfz15_1
        try clear hfz15_2
        try clear hfz25_0
        try clear hfz25_1
        try clear hfz25_2
        try clear hx107_0
        try clear hx21_0
        try clear p107
        try clear p2
        try clear p21
        try clear p6
        try clear q107
        try clear q21
        obtain ⟨x4_2, x7_2, rfl, HA, HK2, HO_4, BK101, BK102, HB⟩ := hrel
        cases gk with
        | zero => exact absurd HA.out (by simp [impl_TrimCircuit.l1])
        | succ k2 =>
         have H := HA.out; clear HA
         simp only [impl_TrimCircuit.l1] at H
         by_cases c26 : x7_2 ≥ 0
         ·rw [if_pos c26] at H
          have c26b0 : decide (0 ≤ x7_2) = true := decide_eq_true c26
          clear c26
          obtain ⟨ji27, hji27⟩ : ∃ j_ : Int, (wrap64 ((wrap64 (3 + a0_0)) + x7_2)) = j_ := ⟨_, rfl⟩
          replace H : (if 0 ≤ (ji27) then (if (ji27) < (x4_2.length : Int) then (if rdOf false x4_2 (ji27) = true then (if 0 ≤ x7_2 then (if x7_2 < (l0_1.length : Int) then (if 0 ≤ ((rd_T46 l0_1 x7_2).f1) then (if ((rd_T46 l0_1 x7_2).f1) < (x4_2.length : Int) then (if 0 ≤ ((rd_T46 l0_1 x7_2).f2) then (if ((rd_T46 l0_1 x7_2).f2) < (x4_2.length : Int) then (impl_TrimCircuit.l1 k2 (wrap64 (3 + a0_0)) ((x4_2.set (((rd_T46 l0_1 x7_2).f1) : Int).toNat true).set (((rd_T46 l0_1 x7_2).f2) : Int).toNat true) (wrap64 (x7_2 - 1)) a0_0 l0_1 l0_2) else (none)) else (none)) else (none)) else (none)) else (none)) else (none)) else (impl_TrimCircuit.l1 k2 (wrap64 (3 + a0_0)) x4_2 (wrap64 (x7_2 - 1)) a0_0 l0_1 l0_2)) else (none)) else (none)) = some (r1, r2, r3) := by first | (rw [hji27] at H; exact H) | (simp only [hji27] at H ⊢; exact H)
          have hji27w : (IntKind.i64.wrap ((wrap64 (3 + a0_0)) + x7_2)) = ji27 := (i64_w _).trans hji27
          by_cases c28 : 0 ≤ (ji27)
          ·rw [if_pos c28] at H
           have c28b0 : decide (0 ≤ (ji27)) = true := decide_eq_true c28
           clear c28
           by_cases c29 : (ji27) < (x4_2.length : Int)
           ·rw [if_pos c29] at H
            have c29b0 : decide ((ji27) < (x4_2.length : Int)) = true := decide_eq_true c29
            clear c29
            obtain ⟨bq30, hbq30⟩ : ∃ b_ : Bool, b_ = (rdOf false x4_2 (ji27)) := ⟨_, rfl⟩
            replace H : (if bq30 = true then (if 0 ≤ x7_2 then (if x7_2 < (l0_1.length : Int) then (if 0 ≤ ((rd_T46 l0_1 x7_2).f1) then (if ((rd_T46 l0_1 x7_2).f1) < (x4_2.length : Int) then (if 0 ≤ ((rd_T46 l0_1 x7_2).f2) then (if ((rd_T46 l0_1 x7_2).f2) < (x4_2.length : Int) then (impl_TrimCircuit.l1 k2 (wrap64 (3 + a0_0)) ((x4_2.set (((rd_T46 l0_1 x7_2).f1) : Int).toNat true).set (((rd_T46 l0_1 x7_2).f2) : Int).toNat true) (wrap64 (x7_2 - 1)) a0_0 l0_1 l0_2) else (none)) else (none)) else (none)) else (none)) else (none)) else (none)) else (impl_TrimCircuit.l1 k2 (wrap64 (3 + a0_0)) x4_2 (wrap64 (x7_2 - 1)) a0_0 l0_1 l0_2)) = some (r1, r2, r3) := by rw [← hbq30] at H; exact H
            have Nbq30 := am hbq30; clear hbq30
            by_cases c31 : bq30 = true
            ·subst c31
             have H1 : (if 0 ≤ x7_2 then (if x7_2 < (l0_1.length : Int) then (if 0 ≤ ((rd_T46 l0_1 x7_2).f1) then (if ((rd_T46 l0_1 x7_2).f1) < (x4_2.length : Int) then (if 0 ≤ ((rd_T46 l0_1 x7_2).f2) then (if ((rd_T46 l0_1 x7_2).f2) < (x4_2.length : Int) then (impl_TrimCircuit.l1 k2 (wrap64 (3 + a0_0)) ((x4_2.set (((rd_T46 l0_1 x7_2).f1) : Int).toNat true).set (((rd_T46 l0_1 x7_2).f2) : Int).toNat true) (wrap64 (x7_2 - 1)) a0_0 l0_1 l0_2) else (none)) else (none)) else (none)) else (none)) else (none)) else (none)) = some (r1, r2, r3) := by rw [if_pos rfl] at H; exact H
             clear H; have H := H1; clear H1
             by_cases c32 : 0 ≤ x7_2
             ·rw [if_pos c32] at H
              have c32b0 : decide (0 ≤ x7_2) = true := decide_eq_true c32
              clear c32
              by_cases c33 : x7_2 < (l0_1.length : Int)
              ·rw [if_pos c33] at H
               have c33b0 : decide (x7_2 < (l0_1.length : Int)) = true := decide_eq_true c33
               clear c33
               by_cases c34 : 0 ≤ ((rd_T46 l0_1 x7_2).f1)
               ·rw [if_pos c34] at H
                have c34b0 : decide (0 ≤ ((rd_T46 l0_1 x7_2).f1)) = true := decide_eq_true c34
                clear c34
                by_cases c35 : ((rd_T46 l0_1 x7_2).f1) < (x4_2.length : Int)
                ·rw [if_pos c35] at H
                 have c35b0 : decide (((rd_T46 l0_1 x7_2).f1) < (x4_2.length : Int)) = true := decide_eq_true c35
                 clear c35
                 obtain ⟨y112, hy112⟩ : ∃ y_ : List Bool, y_ = (x4_2.set (((rd_T46 l0_1 x7_2).f1) : Int).toNat true) := ⟨_, rfl⟩
                 replace H : (if 0 ≤ ((rd_T46 l0_1 x7_2).f2) then (if ((rd_T46 l0_1 x7_2).f2) < (x4_2.length : Int) then (impl_TrimCircuit.l1 k2 (wrap64 (3 + a0_0)) (y112.set (((rd_T46 l0_1 x7_2).f2) : Int).toNat true) (wrap64 (x7_2 - 1)) a0_0 l0_1 l0_2) else (none)) else (none)) = some (r1, r2, r3) := by first | (rw [hy112]; with_reducible exact H) | (have H2_ := (Option.bind_some _ _).symm.trans H; rw [hy112]; with_reducible exact H2_) | (have H2_ := (Option.bind_some _ _).symm.trans H; with_reducible exact H2_) | with_reducible exact H | (rw [hy112]; exact H) | exact H
                 have Ny112 := am hy112; clear hy112
                 by_cases c37 : 0 ≤ ((rd_T46 l0_1 x7_2).f2)
                 ·rw [if_pos c37] at H
                  have c37b0 : decide (0 ≤ ((rd_T46 l0_1 x7_2).f2)) = true := decide_eq_true c37
                  clear c37
                  by_cases c38 : ((rd_T46 l0_1 x7_2).f2) < (x4_2.length : Int)
                  ·rw [if_pos c38] at H
                   have c38b0 : decide (((rd_T46 l0_1 x7_2).f2) < (x4_2.length : Int)) = true := decide_eq_true c38
                   clear c38
                   obtain ⟨y113, hy113⟩ : ∃ y_ : List Bool, y_ = (y112.set (((rd_T46 l0_1 x7_2).f2) : Int).toNat true) := ⟨_, rfl⟩
                   replace H : (impl_TrimCircuit.l1 k2 (wrap64 (3 + a0_0)) y113 (wrap64 (x7_2 - 1)) a0_0 l0_1 l0_2) = some (r1, r2, r3) := by first | (rw [hy113]; with_reducible exact H) | (have H2_ := (Option.bind_some _ _).symm.trans H; rw [hy113]; with_reducible exact H2_) | (have H2_ := (Option.bind_some _ _).symm.trans H; with_reducible exact H2_) | with_reducible exact H | (rw [hy113]; exact H) | exact H
                   have Ny113 := am hy113; clear hy113
                   have H' := am H
                   clear H
                   obtain ⟨Ao40, co40, eo40⟩ := Kd.R_slice HO_4.out
                   subst eo40
                   have p109 : 0 ≤ ((ji27) : Int) := of_decide_eq_true (by first | with_reducible assumption | assumption)
                   have q109 : (ji27) < (x4_2.length : Int) := of_decide_eq_true (by first | with_reducible assumption | assumption)
                   obtain ⟨ad109, e109, hx109_0⟩ := Kd.at_bool (Kd.R_reads' HO_4.out).2.2 (ji27) p109 q109
                   (try rw [← Nbq30.out] at hx109_0)
                   cases e109
                   replace p109 := eq_true p109
                   replace q109 := eq_true q109
                   try go_wp2
                   have n0_ := am (Kd.R_drew HO_4.out); have n1_ := am (blk_drew BK101.out); have n2_ := am (blk_drew BK102.out); have n3_ := am (below_drew1 HB.out); clear HO_4; clear BK101; clear BK102; clear HB; have HO_4 := n0_; have BK101 := n1_; have BK102 := n2_; have HB := n3_; clear n0_ n1_ n2_ n3_
                   have p110 : 0 ≤ (x7_2 : Int) := of_decide_eq_true (by first | with_reducible assumption | assumption)
                   have q110 : x7_2 < (l0_1.length : Int) := of_decide_eq_true (by first | with_reducible assumption | assumption)
                   obtain ⟨ad110, e110, hx110_0, hx110_1, hx110_2, hx110_3, hx110_4, hx110_5, hx110_6, hx110_7, hx110_8, hx110_9, hx110_10⟩ := at_T46 HR0_1.out x7_2 p110 q110
                   have hw110_10 := hx110_10; have hw110_9 := hx110_9; have hw110_8 := hx110_8; have hw110_7 := hx110_7; have hw110_6 := hx110_6; have hw110_5 := hx110_5; have hw110_4 := hx110_4; have hw110_3 := hx110_3; have hw110_2 := hx110_2; have hw110_1 := hx110_1; have hw110_0 := hx110_0
                   cases e110
                   replace hx110_0 := (HB.out.cell (World.block_lt_of_cell? w _ hx110_0)).trans hx110_0
                   replace hx110_1 := (HB.out.cell (World.block_lt_of_cell? w _ hx110_1)).trans hx110_1
                   replace hx110_2 := (HB.out.cell (World.block_lt_of_cell? w _ hx110_2)).trans hx110_2
                   replace hx110_3 := (HB.out.cell (World.block_lt_of_cell? w _ hx110_3)).trans hx110_3
                   replace hx110_4 := (HB.out.cell (World.block_lt_of_cell? w _ hx110_4)).trans hx110_4
                   replace hx110_5 := (HB.out.cell (World.block_lt_of_cell? w _ hx110_5)).trans hx110_5
                   replace hx110_6 := (HB.out.cell (World.block_lt_of_cell? w _ hx110_6)).trans hx110_6
                   replace hx110_7 := (HB.out.cell (World.block_lt_of_cell? w _ hx110_7)).trans hx110_7
                   replace hx110_8 := (HB.out.cell (World.block_lt_of_cell? w _ hx110_8)).trans hx110_8
                   replace hx110_9 := (HB.out.cell (World.block_lt_of_cell? w _ hx110_9)).trans hx110_9
                   replace hx110_10 := (HB.out.cell (World.block_lt_of_cell? w _ hx110_10)).trans hx110_10
                   replace p110 := eq_true p110
                   replace q110 := eq_true q110
                   have p111 : 0 ≤ (x7_2 : Int) := of_decide_eq_true (by first | with_reducible assumption | assumption)
                   have q111 : x7_2 < (l0_1.length : Int) := of_decide_eq_true (by first | with_reducible assumption | assumption)
                   obtain ⟨ad111, e111, hx111_0, hx111_1, hx111_2, hx111_3, hx111_4, hx111_5, hx111_6, hx111_7, hx111_8, hx111_9, hx111_10⟩ := at_T46 HR0_1.out x7_2 p111 q111
                   have hw111_10 := hx111_10; have hw111_9 := hx111_9; have hw111_8 := hx111_8; have hw111_7 := hx111_7; have hw111_6 := hx111_6; have hw111_5 := hx111_5; have hw111_4 := hx111_4; have hw111_3 := hx111_3; have hw111_2 := hx111_2; have hw111_1 := hx111_1; have hw111_0 := hx111_0
                   obtain rfl : ad110 = ad111 := (by injection e111)
                   replace hx111_0 := (HB.out.cell (World.block_lt_of_cell? w _ hx111_0)).trans hx111_0
                   replace hx111_1 := (HB.out.cell (World.block_lt_of_cell? w _ hx111_1)).trans hx111_1
                   replace hx111_2 := (HB.out.cell (World.block_lt_of_cell? w _ hx111_2)).trans hx111_2
                   replace hx111_3 := (HB.out.cell (World.block_lt_of_cell? w _ hx111_3)).trans hx111_3
                   replace hx111_4 := (HB.out.cell (World.block_lt_of_cell? w _ hx111_4)).trans hx111_4
                   replace hx111_5 := (HB.out.cell (World.block_lt_of_cell? w _ hx111_5)).trans hx111_5
                   replace hx111_6 := (HB.out.cell (World.block_lt_of_cell? w _ hx111_6)).trans hx111_6
                   replace hx111_7 := (HB.out.cell (World.block_lt_of_cell? w _ hx111_7)).trans hx111_7
                   replace hx111_8 := (HB.out.cell (World.block_lt_of_cell? w _ hx111_8)).trans hx111_8
                   replace hx111_9 := (HB.out.cell (World.block_lt_of_cell? w _ hx111_9)).trans hx111_9
                   replace hx111_10 := (HB.out.cell (World.block_lt_of_cell? w _ hx111_10)).trans hx111_10
                   replace p111 := eq_true p111
                   replace q111 := eq_true q111
                   have p36 : 0 ≤ (((rd_T46 l0_1 x7_2).f1) : Int) := of_decide_eq_true (by first | with_reducible assumption | assumption)
                   have q36 : (((rd_T46 l0_1 x7_2).f1) : Int) < ((x4_2.length : Int) : Int) := of_decide_eq_true (by first | with_reducible assumption | assumption)
                   obtain ⟨go36, co36, eo36, gb36, gl36, cl36, HG36⟩ := Kd.R_form HO_4.out (by omega)
                   (first | cases eo36 | (injection eo36 with ea_ en_ ec_; (first | subst ea_ | (injection ea_ with ea_; subst ea_)); subst ec_; clear en_))
                   have GB36 := am gb36; have GG36 := am HG36; clear gb36 gl36 HG36
                   (first | simp only [add_plain] at hx109_0 | skip)
                   obtain ⟨hx36_0, hf36_0⟩ := Kd.R_celln false HO_4.out (((rd_T46 l0_1 x7_2).f1) : Int) p36 q36
                   replace p36 := eq_true p36
                   replace q36 := eq_true q36
                   have HP42 := Kd.R_putn HO_4.out (((rd_T46 l0_1 x7_2).f1) : Int) true
                   rw [← Ny112.out] at HP42
                   have HQ42 := am HP42; clear HP42
                   have p39 : 0 ≤ (((rd_T46 l0_1 x7_2).f2) : Int) := of_decide_eq_true (by first | with_reducible assumption | assumption)
                   have q39 : (((rd_T46 l0_1 x7_2).f2) : Int) < ((x4_2.length : Int) : Int) := of_decide_eq_true (by first | with_reducible assumption | assumption)
                   obtain ⟨hx39_0, hf39_0⟩ := Kd.R_celln false HQ42.out (((rd_T46 l0_1 x7_2).f2) : Int) p39 q39
                   replace p39 := eq_true p39
                   replace q39 := eq_true q39
                   have HP43 := Kd.R_putn HQ42.out (((rd_T46 l0_1 x7_2).f2) : Int) true
                   rw [← Ny113.out] at HP43
                   have HQ43 := am HP43; clear HP43
                   refine start_ (n := 18) (S := fun w' => w'.cell? ⟨gb101, 0, none⟩ = some (.int .i64 a0_0) ∧ w'.cell? ⟨gb101, 1, none⟩ = some (.slice (some ad110) l0_1.length c0_1) ∧ w'.cell? ⟨gb101, 2, none⟩ = some (.slice A0_2 l0_2.length c0_2) ∧ w'.cell? (ad110.add ((x7_2).toNat * 11)) = some (.int .i64 ((rd_T46 l0_1 x7_2).f0.f0)) ∧ w'.cell? ⟨(ad110.add ((x7_2).toNat * 11)).block, (ad110.add ((x7_2).toNat * 11)).off + 1, none⟩ = some (.int .i64 ((rd_T46 l0_1 x7_2).f0.f1)) ∧ w'.cell? ⟨(ad110.add ((x7_2).toNat * 11)).block, (ad110.add ((x7_2).toNat * 11)).off + 2, none⟩ = some (.int .i64 ((rd_T46 l0_1 x7_2).f0.f2)) ∧ w'.cell? ⟨(ad110.add ((x7_2).toNat * 11)).block, (ad110.add ((x7_2).toNat * 11)).off + 3, none⟩ = some (.int .i64 ((rd_T46 l0_1 x7_2).f0.f3)) ∧ w'.cell? ⟨(ad110.add ((x7_2).toNat * 11)).block, (ad110.add ((x7_2).toNat * 11)).off + 4, none⟩ = some (.int .i64 ((rd_T46 l0_1 x7_2).f0.f4)) ∧ w'.cell? ⟨(ad110.add ((x7_2).toNat * 11)).block, (ad110.add ((x7_2).toNat * 11)).off + 5, none⟩ = some (.int .i64 ((rd_T46 l0_1 x7_2).f0.f5)) ∧ w'.cell? ⟨(ad110.add ((x7_2).toNat * 11)).block, (ad110.add ((x7_2).toNat * 11)).off + 6, none⟩ = some (.int .i64 ((rd_T46 l0_1 x7_2).f0.f6)) ∧ w'.cell? ⟨(ad110.add ((x7_2).toNat * 11)).block, (ad110.add ((x7_2).toNat * 11)).off + 7, none⟩ = some (.int .i64 ((rd_T46 l0_1 x7_2).f0.f7)) ∧ w'.cell? ⟨(ad110.add ((x7_2).toNat * 11)).block, (ad110.add ((x7_2).toNat * 11)).off + 8, none⟩ = some (.int .i64 ((rd_T46 l0_1 x7_2).f0.f8)) ∧ w'.cell? ⟨(ad110.add ((x7_2).toNat * 11)).block, (ad110.add ((x7_2).toNat * 11)).off + 9, none⟩ = some (.int .i64 ((rd_T46 l0_1 x7_2).f1)) ∧ w'.cell? ⟨(ad110.add ((x7_2).toNat * 11)).block, (ad110.add ((x7_2).toNat * 11)).off + 10, none⟩ = some (.int .i64 ((rd_T46 l0_1 x7_2).f2)) ∧ w'.cell? (ad110.add ((x7_2).toNat * 11)) = some (.int .i64 ((rd_T46 l0_1 x7_2).f0.f0)) ∧ w'.cell? ⟨(ad110.add ((x7_2).toNat * 11)).block, (ad110.add ((x7_2).toNat * 11)).off + 1, none⟩ = some (.int .i64 ((rd_T46 l0_1 x7_2).f0.f1)) ∧ w'.cell? ⟨(ad110.add ((x7_2).toNat * 11)).block, (ad110.add ((x7_2).toNat * 11)).off + 2, none⟩ = some (.int .i64 ((rd_T46 l0_1 x7_2).f0.f2)) ∧ w'.cell? ⟨(ad110.add ((x7_2).toNat * 11)).block, (ad110.add ((x7_2).toNat * 11)).off + 3, none⟩ = some (.int .i64 ((rd_T46 l0_1 x7_2).f0.f3)) ∧ w'.cell? ⟨(ad110.add ((x7_2).toNat * 11)).block, (ad110.add ((x7_2).toNat * 11)).off + 4, none⟩ = some (.int .i64 ((rd_T46 l0_1 x7_2).f0.f4)) ∧ w'.cell? ⟨(ad110.add ((x7_2).toNat * 11)).block, (ad110.add ((x7_2).toNat * 11)).off + 5, none⟩ = some (.int .i64 ((rd_T46 l0_1 x7_2).f0.f5)) ∧ w'.cell? ⟨(ad110.add ((x7_2).toNat * 11)).block, (ad110.add ((x7_2).toNat * 11)).off + 6, none⟩ = some (.int .i64 ((rd_T46 l0_1 x7_2).f0.f6)) ∧ w'.cell? ⟨(ad110.add ((x7_2).toNat * 11)).block, (ad110.add ((x7_2).toNat * 11)).off + 7, none⟩ = some (.int .i64 ((rd_T46 l0_1 x7_2).f0.f7)) ∧ w'.cell? ⟨(ad110.add ((x7_2).toNat * 11)).block, (ad110.add ((x7_2).toNat * 11)).off + 8, none⟩ = some (.int .i64 ((rd_T46 l0_1 x7_2).f0.f8)) ∧ w'.cell? ⟨(ad110.add ((x7_2).toNat * 11)).block, (ad110.add ((x7_2).toNat * 11)).off + 9, none⟩ = some (.int .i64 ((rd_T46 l0_1 x7_2).f1)) ∧ w'.cell? ⟨(ad110.add ((x7_2).toNat * 11)).block, (ad110.add ((x7_2).toNat * 11)).off + 10, none⟩ = some (.int .i64 ((rd_T46 l0_1 x7_2).f2))) (ds := [15, 17]) q38_0 (by kernel_rfl) rfl rfl ⟨(blk_cell BK101.out 0).trans rfl, (blk_cell BK101.out 1).trans rfl, (blk_cell BK101.out 2).trans rfl, ((HB.out.cell (World.block_lt_of_cell? w _ hw110_0)).trans hw110_0), ((HB.out.cell (World.block_lt_of_cell? w _ hw110_1)).trans hw110_1), ((HB.out.cell (World.block_lt_of_cell? w _ hw110_2)).trans hw110_2), ((HB.out.cell (World.block_lt_of_cell? w _ hw110_3)).trans hw110_3), ((HB.out.cell (World.block_lt_of_cell? w _ hw110_4)).trans hw110_4), ((HB.out.cell (World.block_lt_of_cell? w _ hw110_5)).trans hw110_5), ((HB.out.cell (World.block_lt_of_cell? w _ hw110_6)).trans hw110_6), ((HB.out.cell (World.block_lt_of_cell? w _ hw110_7)).trans hw110_7), ((HB.out.cell (World.block_lt_of_cell? w _ hw110_8)).trans hw110_8), ((HB.out.cell (World.block_lt_of_cell? w _ hw110_9)).trans hw110_9), ((HB.out.cell (World.block_lt_of_cell? w _ hw110_10)).trans hw110_10), ((HB.out.cell (World.block_lt_of_cell? w _ hw111_0)).trans hw111_0), ((HB.out.cell (World.block_lt_of_cell? w _ hw111_1)).trans hw111_1), ((HB.out.cell (World.block_lt_of_cell? w _ hw111_2)).trans hw111_2), ((HB.out.cell (World.block_lt_of_cell? w _ hw111_3)).trans hw111_3), ((HB.out.cell (World.block_lt_of_cell? w _ hw111_4)).trans hw111_4), ((HB.out.cell (World.block_lt_of_cell? w _ hw111_5)).trans hw111_5), ((HB.out.cell (World.block_lt_of_cell? w _ hw111_6)).trans hw111_6), ((HB.out.cell (World.block_lt_of_cell? w _ hw111_7)).trans hw111_7), ((HB.out.cell (World.block_lt_of_cell? w _ hw111_8)).trans hw111_8), ((HB.out.cell (World.block_lt_of_cell? w _ hw111_9)).trans hw111_9), ((HB.out.cell (World.block_lt_of_cell? w _ hw111_10)).trans hw111_10)⟩ (fun hHeld => ?_); refine with_tabW impl_TrimCircuit.tab14 impl_TrimCircuit.bits14 (fun HT_ HW_ => ?_)
                   generalize wr.drew = w41 at HO_4 BK101 BK102 HB GG36 HQ42 HQ43 hf36_0 hf39_0 hx109_0 hx110_0 hx110_1 hx110_10 hx110_2 hx110_3 hx110_4 hx110_5 hx110_6 hx110_7 hx110_8 hx110_9 hx111_0 hx111_1 hx111_10 hx111_2 hx111_3 hx111_4 hx111_5 hx111_6 hx111_7 hx111_8 hx111_9 hx36_0 hx39_0 hHeld ⊢
                   refine pure_ (i := 0) (N := some 53) (v := ?_) (a' := ?_) q38_1 rfl rfl (any_of HT_.out (by kernel_rfl)) (fun _ _ _ h => h) (Or.inl ⟨by rfl, ?_⟩) ?_ ?_; rotate_left
                   ·intro w'
                    go_simp; with_reducible rfl
                   rotate_left
                   ·simp only [Act.put, qa38, qb38, qc38, i64_w, i32_w]
                    rfl
                   refine pure_ (i := 1) (N := some 54) (v := ?_) (a' := ?_) q38_2 rfl rfl (any_of HT_.out (by kernel_rfl)) (fun _ _ _ h => h) (Or.inl ⟨by rfl, ?_⟩) ?_ ?_; rotate_left
                   ·intro w'
                    go_simp; with_reducible rfl
                   rotate_left
                   ·simp only [Act.put, qa38, qb38, qc38, i64_w, i32_w]
                    rfl
                   refine pure_ (i := 3) (N := some 56) (v := ?_) (a' := ?_) q38_3 rfl rfl (any_of HT_.out (by kernel_rfl)) (fun _ _ _ h => h) (Or.inl ⟨by rfl, ?_⟩) ?_ ?_; rotate_left
                   ·intro w'
                    go_simp; with_reducible rfl
                   rotate_left
                   ·simp only [Act.put, qa38, qb38, qc38, i64_w, i32_w]
                    rfl
                   refine pure_ (i := 7) (N := some 60) (v := ?_) (a' := ?_) q38_4 rfl rfl (any_of HT_.out (by kernel_rfl)) (fun _ _ _ h => h) (Or.inl ⟨by rfl, ?_⟩) ?_ ?_; rotate_left
                   ·intro w'
                    go_simp; with_reducible rfl
                   rotate_left
                   ·simp only [Act.put, qa38, qb38, qc38, i64_w, i32_w]
                    rfl
                   refine pure_ (i := 8) (N := some 61) (v := ?_) (a' := ?_) q38_5 rfl rfl (any_of HT_.out (by kernel_rfl)) (fun _ _ _ h => h) (Or.inl ⟨by rfl, ?_⟩) ?_ ?_; rotate_left
                   ·intro w'
                    go_simp; with_reducible rfl
                   rotate_left
                   ·simp only [Act.put, qa38, qb38, qc38, i64_w, i32_w]
                    rfl
                   refine pure_ (i := 10) (N := some 63) (v := ?_) (a' := ?_) q38_6 rfl rfl (any_of HT_.out (by kernel_rfl)) (fun _ _ _ h => h) (Or.inl ⟨by rfl, ?_⟩) ?_ ?_; rotate_left
                   ·intro w'
                    go_simp; with_reducible rfl
                   rotate_left
                   ·simp only [Act.put, qa38, qb38, qc38, i64_w, i32_w]
                    rfl
                   refine take_ (i := 2) (N := some 55) (v := ?_) (a' := ?_) q38_7 rfl rfl (take_ofW HT_.out HW_.out (by kernel_rfl)) (fun _ _ _ h => h) (Or.inl ⟨by rfl, ?_⟩) hHeld ?_ ?_; rotate_left
                   ·rintro w' ⟨s0, s1, s2, s3, s4, s5, s6, s7, s8, s9, s10, s11, s12, s13, s14, s15, s16, s17, s18, s19, s20, s21, s22, s23, s24⟩
                    go_simp; with_reducible rfl
                   rotate_left
                   ·simp only [Act.put, qa38, qb38, qc38, i64_w, i32_w]
                    rfl
                   refine pure_ (i := 4) (N := some 57) (v := ?_) (a' := ?_) q38_8 rfl rfl (any_of HT_.out (by kernel_rfl)) (fun _ _ _ h => h) (Or.inl ⟨by rfl, ?_⟩) ?_ ?_; rotate_left
                   ·intro w'
                    go_simp; with_reducible rfl
                   rotate_left
                   ·simp only [Act.put, qa38, qb38, qc38, i64_w, i32_w]
                    rfl
                   refine pure_ (i := 5) (N := some 58) (v := ?_) (a' := ?_) q38_9 rfl rfl (any_of HT_.out (by kernel_rfl)) (fun _ _ _ h => h) (Or.inl ⟨by rfl, ?_⟩) ?_ ?_; rotate_left
                   ·intro w'
                    go_simp; with_reducible rfl
                   rotate_left
                   ·simp only [Act.put, qa38, qb38, qc38, i64_w, i32_w]
                    rfl
                   refine take_ (i := 6) (N := some 59) (v := ?_) (a' := ?_) q38_10 rfl rfl (take_ofW HT_.out HW_.out (by kernel_rfl)) (fun _ _ _ h => h) (Or.inl ⟨by rfl, ?_⟩) hHeld ?_ ?_; rotate_left
                   ·rintro w' ⟨s0, s1, s2, s3, s4, s5, s6, s7, s8, s9, s10, s11, s12, s13, s14, s15, s16, s17, s18, s19, s20, s21, s22, s23, s24⟩
                    go_simp; with_reducible rfl
                   rotate_left
                   ·simp only [Act.put, qa38, qb38, qc38, i64_w, i32_w]
                    rfl
                   refine take_ (i := 9) (N := some 62) (v := ?_) (a' := ?_) q38_11 rfl rfl (take_ofW HT_.out HW_.out (by kernel_rfl)) (fun _ _ _ h => h) (Or.inl ⟨by rfl, ?_⟩) hHeld ?_ ?_; rotate_left
                   ·rintro w' ⟨s0, s1, s2, s3, s4, s5, s6, s7, s8, s9, s10, s11, s12, s13, s14, s15, s16, s17, s18, s19, s20, s21, s22, s23, s24⟩
                    go_simp; with_reducible rfl
                   rotate_left
                   ·simp only [Act.put, qa38, qb38, qc38, i64_w, i32_w]
                    rfl
                   refine pure_ (i := 11) (N := some 64) (v := ?_) (a' := ?_) q38_12 rfl rfl (any_of HT_.out (by kernel_rfl)) (fun _ _ _ h => h) (Or.inl ⟨by rfl, ?_⟩) ?_ ?_; rotate_left
                   ·intro w'
                    go_simp; with_reducible rfl
                   rotate_left
                   ·simp only [Act.put, qa38, qb38, qc38, i64_w, i32_w]
                    rfl
                   refine pure_ (i := 12) (N := some 65) (v := ?_) (a' := ?_) q38_13 rfl rfl (any_of HT_.out (by kernel_rfl)) (fun _ _ _ h => h) (Or.inl ⟨by rfl, ?_⟩) ?_ ?_; rotate_left
                   ·intro w'
                    go_simp; with_reducible rfl
                   rotate_left
                   ·simp only [Act.put, qa38, qb38, qc38, i64_w, i32_w]
                    rfl
                   refine take_ (i := 13) (N := some 66) (v := ?_) (a' := ?_) q38_14 rfl rfl (take_ofW HT_.out HW_.out (by kernel_rfl)) (fun _ _ _ h => h) (Or.inl ⟨by rfl, ?_⟩) hHeld ?_ ?_; rotate_left
                   ·rintro w' ⟨s0, s1, s2, s3, s4, s5, s6, s7, s8, s9, s10, s11, s12, s13, s14, s15, s16, s17, s18, s19, s20, s21, s22, s23, s24⟩
                    go_simp; with_reducible rfl
                   rotate_left
                   ·simp only [Act.put, qa38, qb38, qc38, i64_w, i32_w]
                    rfl
                   refine pure_ (i := 14) (N := some 67) (v := ?_) (a' := ?_) q38_15 rfl rfl (any_of HT_.out (by kernel_rfl)) (fun _ _ _ h => h) (Or.inl ⟨by rfl, ?_⟩) ?_ ?_; rotate_left
                   ·intro w'
                    go_simp; with_reducible rfl
                   rotate_left
                   ·simp only [Act.put, qa38, qb38, qc38, i64_w, i32_w]
                    rfl
                   refine last_ (i := 15) (N := none) q38_16 rfl rfl (one_of HT_.out (by kernel_rfl)) (by decide) (fun K hK => ?_)
                   refine skip_ (w1 := ?_) (by rfl) rfl ?_ ?_; rotate_left
                   ·go_simp
                    rfl
                   refine hK.out _ _ ?_
                   clear hK K
                   refine pure_ (i := 16) (N := some 68) (v := ?_) (a' := ?_) q38_17 rfl rfl (any_of HT_.out (by kernel_rfl)) (fun _ _ _ h => h) (Or.inl ⟨by rfl, ?_⟩) ?_ ?_; rotate_left
                   ·intro w'
                    go_simp; with_reducible rfl
                   rotate_left
                   ·simp only [Act.put, qa38, qb38, qc38, i64_w, i32_w]
                    rfl
                   refine last_ (i := 17) (N := none) q38_18 rfl rfl (one_of HT_.out (by kernel_rfl)) (by decide) (fun K hK => ?_)
                   refine skip_ (w1 := ?_) (by rfl) rfl ?_ ?_; rotate_left
                   ·go_simp
                    rfl
                   refine hK.out _ _ ?_
                   clear hK K
                   refine done_ (done_of HT_.out (by kernel_rfl)) ?_
                   try go_wp2
                   go_roundg k2
                   case measure => have := HK1.out; have := HK2.out; omega
                   case rel => exact ⟨(y113), (wrap64 (x7_2 - 1)), (by first | rfl | (simp; done) | (simp [*]; done)), H', ⟨by have := HK1.out; have := HK2.out; omega⟩, ⟨by (with_reducible repeat (first | apply Kd.R_alloc | apply Kd.R_drewN | apply Kd.R_drew)); exact HQ43.out⟩, ⟨by (with_reducible repeat (first | refine blk_drewN ?_ _ | refine blk_drew ?_ | refine blk_alloc ?_ _)); refine blk_far ?_ (by have h_ := Kd.R_ne HO_4.out BK101.out (by decide); intro e_; exact h_ (by rw [e_]; rfl)) _; (with_reducible repeat (first | refine blk_drewN ?_ _ | refine blk_drew ?_ | refine blk_alloc ?_ _)); refine blk_far ?_ (by have h_ := Kd.R_ne HO_4.out BK101.out (by decide); intro e_; exact h_ (by rw [e_]; rfl)) _; (with_reducible repeat (first | refine blk_drewN ?_ _ | refine blk_drew ?_ | refine blk_alloc ?_ _)); exact BK101.out⟩, ⟨by (with_reducible repeat (first | refine blk_drewN ?_ _ | refine blk_drew ?_ | refine blk_alloc ?_ _)); refine blk_far ?_ (by have h_ := Kd.R_ne HO_4.out BK102.out (by decide); intro e_; exact h_ (by rw [e_]; rfl)) _; (with_reducible repeat (first | refine blk_drewN ?_ _ | refine blk_drew ?_ | refine blk_alloc ?_ _)); refine blk_far ?_ (by have h_ := Kd.R_ne HO_4.out BK102.out (by decide); intro e_; exact h_ (by rw [e_]; rfl)) _; (with_reducible repeat (first | refine blk_drewN ?_ _ | refine blk_drew ?_ | refine blk_alloc ?_ _)); exact BK102.out⟩, ⟨bB HB.out⟩⟩
                  ·rw [if_neg c38] at H
                   exact absurd H (by simp)
                 ·rw [if_neg c37] at H
                  exact absurd H (by simp)
                ·rw [if_neg c35] at H
                 exact absurd H (by simp)
               ·rw [if_neg c34] at H
                exact absurd H (by simp)
              ·rw [if_neg c33] at H
               exact absurd H (by simp)
             ·rw [if_neg c32] at H
              exact absurd H (by simp)
            ·replace c31 := Bool.eq_false_iff.mpr c31
             subst c31
             have H1 : (impl_TrimCircuit.l1 k2 (wrap64 (3 + a0_0)) x4_2 (wrap64 (x7_2 - 1)) a0_0 l0_1 l0_2) = some (r1, r2, r3) := by rw [if_neg (show ¬ (false = true) by decide)] at H; exact H
             clear H; have H := H1; clear H1
             have H' := am H
             clear H
             obtain ⟨Ao44, co44, eo44⟩ := Kd.R_slice HO_4.out
             subst eo44
             have p109 : 0 ≤ ((ji27) : Int) := of_decide_eq_true (by first | with_reducible assumption | assumption)
             have q109 : (ji27) < (x4_2.length : Int) := of_decide_eq_true (by first | with_reducible assumption | assumption)
             obtain ⟨ad109, e109, hx109_0⟩ := Kd.at_bool (Kd.R_reads' HO_4.out).2.2 (ji27) p109 q109
             (try rw [← Nbq30.out] at hx109_0)
             cases e109
             replace p109 := eq_true p109
             replace q109 := eq_true q109
             go_wp2
             go_roundg k2
             case measure => have := HK1.out; have := HK2.out; omega
             case rel => exact ⟨(x4_2), (wrap64 (x7_2 - 1)), (by first | rfl | (simp; done) | (simp [*]; done)), H', ⟨by have := HK1.out; have := HK2.out; omega⟩, ⟨by (with_reducible repeat (first | apply Kd.R_alloc | apply Kd.R_drewN | apply Kd.R_drew)); exact HO_4.out⟩, ⟨bA BK101.out⟩, ⟨bA BK102.out⟩, ⟨bB HB.out⟩⟩
           ·rw [if_neg c29] at H
            exact absurd H (by simp)
          ·rw [if_neg c28] at H
           exact absurd H (by simp)
         ·rw [if_neg c26] at H
          have c26b0 : decide (0 ≤ x7_2) = false := decide_eq_false c26
          clear c26
          by_cases c45 : 0 ≤ (x4_2.length : Int)
          ·rw [if_pos c45] at H
           have c45b0 := eq_true c45
           have c45b1 : decide (0 ≤ (x4_2.length : Int)) = true := decide_eq_true c45
           clear c45
           by_cases c46 : ((x4_2.length : Int) : Int).toNat ≤ 35184372088832
           ·rw [if_pos c46] at H
            have c46b0 := eq_true c46
            have c46b1 : decide (((x4_2.length : Int) : Int).toNat ≤ 35184372088832) = true := decide_eq_true c46
            clear c46
            obtain ⟨y114, hy114⟩ : ∃ y_ : List Int, y_ = (List.replicate ((x4_2.length : Int) : Int).toNat 0) := ⟨_, rfl⟩
            replace H : (impl_TrimCircuit.l2 k2 (wrap64 (3 + a0_0)) x4_2 y114 (wrap64 (3 + a0_0)) 0 a0_0 l0_1 l0_2 a0_0) = some (r1, r2, r3) := by first | (rw [hy114]; with_reducible exact H) | (have H2_ := (Option.bind_some _ _).symm.trans H; rw [hy114]; with_reducible exact H2_) | (have H2_ := (Option.bind_some _ _).symm.trans H; with_reducible exact H2_) | with_reducible exact H | (rw [hy114]; exact H) | exact H
            have Ny114 := am hy114; clear hy114
            have H' := am H
            clear H
            try go_wp2
            have n0_ := am (Kd.R_drew HO_4.out); have n1_ := am (blk_drew BK101.out); have n2_ := am (blk_drew BK102.out); have n3_ := am (below_drew1 HB.out); clear HO_4; clear BK101; clear BK102; clear HB; have HO_4 := n0_; have BK101 := n1_; have BK102 := n2_; have HB := n3_; clear n0_ n1_ n2_ n3_
            obtain ⟨Ao48, co48, eo48⟩ := Kd.R_slice HO_4.out
            (first | subst eo48 | (injection eo48 with f1_ f2_ f3_; have f4_ := f1_.symm; have f5_ := f3_.symm; clear f1_ f2_ f3_; subst f4_; subst f5_))
            refine start_ (n := 9) (S := fun w' => w'.cell? ⟨gb101, 0, none⟩ = some (.int .i64 a0_0) ∧ w'.cell? ⟨gb101, 1, none⟩ = some (.slice A0_1 l0_1.length c0_1) ∧ w'.cell? ⟨gb101, 2, none⟩ = some (.slice A0_2 l0_2.length c0_2)) (ds := []) q38_19 (by kernel_rfl) rfl rfl ⟨(blk_cell BK101.out 0).trans rfl, (blk_cell BK101.out 1).trans rfl, (blk_cell BK101.out 2).trans rfl⟩ (fun hHeld => ?_); refine with_tabW impl_TrimCircuit.tab15 impl_TrimCircuit.bits15 (fun HT_ HW_ => ?_)
            generalize wr.drew = w47 at HO_4 BK101 BK102 HB hHeld ⊢
            refine pure_ (i := 0) (N := some 69) (v := ?_) (a' := ?_) q38_20 rfl rfl (any_of HT_.out (by kernel_rfl)) (fun _ _ _ h => h) (Or.inl ⟨by rfl, ?_⟩) ?_ ?_; rotate_left
            ·intro w'
             go_simp; with_reducible rfl
            rotate_left
            ·simp only [Act.put, qa38, qb38, qc38, i64_w, i32_w]
             rfl
            refine pure_ (i := 3) (N := some 72) (v := ?_) (a' := ?_) q38_21 rfl rfl (any_of HT_.out (by kernel_rfl)) (fun _ _ _ h => h) (Or.inl ⟨by rfl, ?_⟩) ?_ ?_; rotate_left
            ·intro w'
             go_simp; with_reducible rfl
            rotate_left
            ·simp only [Act.put, qa38, qb38, qc38, i64_w, i32_w]
             rfl
            refine pure_ (i := 4) (N := some 73) (v := ?_) (a' := ?_) q38_22 rfl rfl (any_of HT_.out (by kernel_rfl)) (fun _ _ _ h => h) (Or.inl ⟨by rfl, ?_⟩) ?_ ?_; rotate_left
            ·intro w'
             go_simp; with_reducible rfl
            rotate_left
            ·simp only [Act.put, qa38, qb38, qc38, i64_w, i32_w]
             rfl
            refine take_ (i := 1) (N := some 70) (v := ?_) (a' := ?_) q38_23 rfl rfl (take_ofW HT_.out HW_.out (by kernel_rfl)) (fun _ _ _ h => h) (Or.inl ⟨by rfl, ?_⟩) hHeld ?_ ?_; rotate_left
            ·rintro w' ⟨s0, s1, s2⟩
             go_simp; with_reducible rfl
            rotate_left
            ·simp only [Act.put, qa38, qb38, qc38, i64_w, i32_w]
             rfl
            refine pure_ (i := 2) (N := some 71) (v := ?_) (a' := ?_) q38_24 rfl rfl (any_of HT_.out (by kernel_rfl)) (fun _ _ _ h => h) (Or.inl ⟨by rfl, ?_⟩) ?_ ?_; rotate_left
            ·intro w'
             go_simp; with_reducible rfl
            rotate_left
            ·simp only [Act.put, qa38, qb38, qc38, i64_w, i32_w]
             rfl
            refine join_ (σ := Value × Nat) 1 q38_25 (fun s_ => [(74, s_.1), (8, .pointer (some ⟨s_.2, 0, none⟩))]) (fun s_ w' => (w'.cell? ⟨gb101, 0, none⟩ = some (.int .i64 a0_0) ∧ w'.cell? ⟨gb101, 1, none⟩ = some (.slice A0_1 l0_1.length c0_1) ∧ w'.cell? ⟨gb101, 2, none⟩ = some (.slice A0_2 l0_2.length c0_2)) ∧ (Kd.R (Kd.int .i64) 3 w' w.heap.size (fun _ => True) s_.1 y114) ∧ (Kd.R Kd.bool 4 w' w.heap.size (fun _ => True) (.slice Ao48 x4_2.length co48) x4_2) ∧ (w'.heap[gb101]? = some (.cells #[.int .i64 a0_0, .slice A0_1 l0_1.length c0_1, .slice A0_2 l0_2.length c0_2] 35 (0, 0))) ∧ (w'.heap[gb102]? = some (.cells #[.int .i64 0, .slice none 0 0, .slice none 0 0] 35 (0, 0))) ∧ (w'.heap[s_.2]? = some (.cells #[.int .i64 a0_0, .slice none 0 0, .slice none 0 0] 35 (0, 0))) ∧ (w.heap.size ≤ s_.2) ∧ (w.heap.size ≤ s_.2) ∧ (gb101 ≠ s_.2) ∧ (s_.2 ≠ gb101) ∧ (gb102 ≠ s_.2) ∧ (s_.2 ≠ gb102) ∧ (Below w.heap.size w w')) ?_ ?_; rotate_left
            ·intro hCont
             refine two_ (i := 5) (j := 6) (Ni := some 74) (Nj := some 8) q38_26 q38_27 rfl rfl rfl rfl (two_of HT_.out (by kernel_rfl)) (by decide) (by decide) (fun K hK => ?_) (fun K hK => ?_)
             ·skip
              refine Kd.R_make_step (Kd.int .i64) _ 3 (by rfl) (N := 74) rfl 28 _ _ rfl (x4_2.length : Int) rfl rfl Try.underlying28 (.int .i64 0) 8 info3 rfl (by decide) (by omega) 0 (ok := fun _ => True) (okp := fun _ => True) rfl (fun _ hk => hk) trivial (of_decide_eq_true (by first | with_reducible assumption | assumption)) (Nat.le_trans (Nat.mul_le_mul_right _ (of_decide_eq_true (by first | with_reducible assumption | assumption) : (x4_2.length : Int).toNat ≤ 35184372088832)) (by omega)) (Below.refl _ _) (Nat.le_refl _) ?_
              intro v115 w49 ho50 hb hg_ hnew_
              clear hg_ hnew_
              (first | rw [← Ny114.out] at ho50 | (simp only [Int.reduceToNat] at ho50; rw [← Ny114.out] at ho50))
              have n0_ := am (Kd.R_below (bC HO_4.out) hb); have n1_ := am (Kd.R_lower ho50 (below_size (bB HB.out))); have n2_ := am (blk_below (bA BK101.out) hb); have n3_ := am (blk_below (bA BK102.out) hb); have n4_ := am (below_step (bB HB.out) hb); clear HO_4; clear BK101; clear BK102; clear HB; have HO_4 := n0_; have HO116 := n1_; have BK101 := n2_; have BK102 := n3_; have HB := n4_; clear n0_ n1_ n2_ n3_ n4_; clear hb ho50
              refine hK.out _ _ ⟨(blk_cell BK101.out 0).trans rfl, (blk_cell BK101.out 1).trans rfl, (blk_cell BK101.out 2).trans rfl⟩ (fun hHeld => ?_)
              clear hK K
              refine norm_ (a' := ?_) ?_ ?_; rotate_left
              ·show Act.put _ (some 74) _ = _
               simp only [Act.put, qa38, qb38, qc38, i64_w, i32_w]
               rfl
              refine one_ (i := 6) (N := some 8) q38_28 rfl rfl (one_of HT_.out (by kernel_rfl)) (by decide) (fun K hK => ?_)
              refine box_step ?hg (N := 8) ?hd (cs := #[.int .i64 0, .slice none 0 0, .slice none 0 0]) (t := 35) ?hr ?_; (case hd => rfl); (case hg => rfl); (case hr => first | (go_simp; done) | (go_simp; rfl))
              intro gb117 hg w51 hbox hb
              have n0_ := am (Kd.R_below (bC HO_4.out) hb); have n1_ := am (Kd.R_below (bC HO116.out) hb); have n2_ := am (blk_below (bA BK101.out) hb); have n3_ := am (blk_below (bA BK102.out) hb); have n4_ := am (below_step (bB HB.out) hb); have n5_ := am (hbox); have n6_ := am ((by rw [hg]; exact (below_size (bB HB.out)) : w.heap.size ≤ gb117)); have n7_ := am ((by rw [hg]; exact (below_size (bB HB.out)) : w.heap.size ≤ gb117)); have n8_ := am ((by rw [hg]; exact Nat.ne_of_lt (blk_lt (g := gb101) (o := .cells #[.int .i64 a0_0, .slice A0_1 l0_1.length c0_1, .slice A0_2 l0_2.length c0_2] 35 (0, 0)) (bA BK101.out)) : gb101 ≠ gb117)); have n9_ := am ((by rw [hg]; exact Nat.ne_of_gt (blk_lt (g := gb101) (o := .cells #[.int .i64 a0_0, .slice A0_1 l0_1.length c0_1, .slice A0_2 l0_2.length c0_2] 35 (0, 0)) (bA BK101.out)) : gb117 ≠ gb101)); have n10_ := am ((by rw [hg]; exact Nat.ne_of_lt (blk_lt (g := gb102) (o := .cells #[.int .i64 0, .slice none 0 0, .slice none 0 0] 35 (0, 0)) (bA BK102.out)) : gb102 ≠ gb117)); have n11_ := am ((by rw [hg]; exact Nat.ne_of_gt (blk_lt (g := gb102) (o := .cells #[.int .i64 0, .slice none 0 0, .slice none 0 0] 35 (0, 0)) (bA BK102.out)) : gb117 ≠ gb102)); clear HO_4; clear HO116; clear BK101; clear BK102; clear HB; have HO_4 := n0_; have HO116 := n1_; have BK101 := n2_; have BK102 := n3_; have HB := n4_; have BK117 := n5_; have GW117 := n6_; have GE117 := n7_; have NB101_117 := n8_; have NB117_101 := n9_; have NB102_117 := n10_; have NB117_102 := n11_; clear n0_ n1_ n2_ n3_ n4_ n5_ n6_ n7_ n8_ n9_ n10_ n11_; clear hb hbox hg
              refine hK.out _ _ ⟨(blk_cell BK101.out 0).trans rfl, (blk_cell BK101.out 1).trans rfl, (blk_cell BK101.out 2).trans rfl⟩ (fun hHeld => ?_)
              clear hK K
              refine norm_ (a' := ?_) ?_ ?_; rotate_left
              ·show Act.put _ (some 8) _ = _
               simp only [Act.put, qa38, qb38, qc38, i64_w, i32_w]
               rfl
              refine one_ (i := 7) (N := none) q38_25 rfl rfl (one_of HT_.out (by kernel_rfl)) (by decide) (fun K hK => ?_)
              have hs52 : w51.cell? ⟨gb117, 0, none⟩ = some (.int .i64 0) := (blk_cell BK117.out 0).trans rfl
              have hfs52 := blk_frozen BK117.out 0; have hns52_0 := NB101_117.out; have hns52_1 := NB102_117.out; have hms52_0 := NB117_101.out; have hms52_1 := NB117_102.out
              have hs53 : w51.cell? ⟨gb117, 1, none⟩ = some (.slice none 0 0) := (blk_cell BK117.out 1).trans rfl
              have hfs53 := blk_frozen BK117.out 1; have hns53_0 := NB101_117.out; have hns53_1 := NB102_117.out; have hms53_0 := NB117_101.out; have hms53_1 := NB117_102.out
              have hs54 : w51.cell? ⟨gb117, 2, none⟩ = some (.slice none 0 0) := (blk_cell BK117.out 2).trans rfl
              have hfs54 := blk_frozen BK117.out 2; have hns54_0 := NB101_117.out; have hns54_1 := NB102_117.out; have hms54_0 := NB117_101.out; have hms54_1 := NB117_102.out
              refine skip_ (w1 := ?_) (by rfl) rfl ?_ ?_; rotate_left
              ·go_simp
               rfl
              refine hK.out _ _ ⟨((cell_far (p := ⟨gb117, _, none⟩) NB101_117.out _).trans (((cell_far (p := ⟨gb117, _, none⟩) NB101_117.out _).trans (((cell_far (p := ⟨gb117, _, none⟩) NB101_117.out _).trans (hHeld.1)))))), ((cell_far (p := ⟨gb117, _, none⟩) NB101_117.out _).trans (((cell_far (p := ⟨gb117, _, none⟩) NB101_117.out _).trans (((cell_far (p := ⟨gb117, _, none⟩) NB101_117.out _).trans (hHeld.2.1)))))), ((cell_far (p := ⟨gb117, _, none⟩) NB101_117.out _).trans (((cell_far (p := ⟨gb117, _, none⟩) NB101_117.out _).trans (((cell_far (p := ⟨gb117, _, none⟩) NB101_117.out _).trans (hHeld.2.2))))))⟩ (fun hHeld => ?_)
              clear hK K
              exact norm_ (by simp only [putAll, Act.put, qa38, qb38, qc38]) (hCont (v115, gb117) _ ⟨hHeld, (bC (Kd.R_mono (Kd.R_far (p := ⟨gb117, 2, none⟩) (Kd.R_far (p := ⟨gb117, 1, none⟩) (Kd.R_far (p := ⟨gb117, 0, none⟩) (Kd.R_types HO116.out BK117.out (by decide)) (fun _ hk => hk.2) (.int .i64 a0_0)) (fun _ hk => hk.2) (.slice none 0 0)) (fun _ hk => hk.2) (.slice none 0 0)) (fun _ hk => trivial))), (bC (Kd.R_mono (Kd.R_far (p := ⟨gb117, 2, none⟩) (Kd.R_far (p := ⟨gb117, 1, none⟩) (Kd.R_far (p := ⟨gb117, 0, none⟩) (Kd.R_types HO_4.out BK117.out (by decide)) (fun _ hk => hk.2) (.int .i64 a0_0)) (fun _ hk => hk.2) (.slice none 0 0)) (fun _ hk => hk.2) (.slice none 0 0)) (fun _ hk => trivial))), (by (with_reducible repeat (first | refine blk_drewN ?_ _ | refine blk_drew ?_ | refine blk_alloc ?_ _)); refine blk_far ?_ NB101_117.out _; (with_reducible repeat (first | refine blk_drewN ?_ _ | refine blk_drew ?_ | refine blk_alloc ?_ _)); refine blk_far ?_ NB101_117.out _; (with_reducible repeat (first | refine blk_drewN ?_ _ | refine blk_drew ?_ | refine blk_alloc ?_ _)); refine blk_far ?_ NB101_117.out _; (with_reducible repeat (first | refine blk_drewN ?_ _ | refine blk_drew ?_ | refine blk_alloc ?_ _)); exact BK101.out), (by (with_reducible repeat (first | refine blk_drewN ?_ _ | refine blk_drew ?_ | refine blk_alloc ?_ _)); refine blk_far ?_ NB102_117.out _; (with_reducible repeat (first | refine blk_drewN ?_ _ | refine blk_drew ?_ | refine blk_alloc ?_ _)); refine blk_far ?_ NB102_117.out _; (with_reducible repeat (first | refine blk_drewN ?_ _ | refine blk_drew ?_ | refine blk_alloc ?_ _)); refine blk_far ?_ NB102_117.out _; (with_reducible repeat (first | refine blk_drewN ?_ _ | refine blk_drew ?_ | refine blk_alloc ?_ _)); exact BK102.out), (by (with_reducible repeat (first | refine blk_drewN ?_ _ | refine blk_drew ?_ | refine blk_alloc ?_ _)); refine blk_put (cs := #[.int .i64 a0_0, .slice none 0 0, .slice none 0 0]) ?_ 2 _ rfl; (with_reducible repeat (first | refine blk_drewN ?_ _ | refine blk_drew ?_ | refine blk_alloc ?_ _)); refine blk_put (cs := #[.int .i64 a0_0, .slice none 0 0, .slice none 0 0]) ?_ 1 _ rfl; (with_reducible repeat (first | refine blk_drewN ?_ _ | refine blk_drew ?_ | refine blk_alloc ?_ _)); refine blk_put (cs := #[.int .i64 0, .slice none 0 0, .slice none 0 0]) ?_ 0 _ rfl; (with_reducible repeat (first | refine blk_drewN ?_ _ | refine blk_drew ?_ | refine blk_alloc ?_ _)); exact BK117.out), GW117.out, GE117.out, NB101_117.out, NB117_101.out, NB102_117.out, NB117_102.out, (bB HB.out)⟩)
             ·skip
              refine box_step ?hg (N := 8) ?hd (cs := #[.int .i64 0, .slice none 0 0, .slice none 0 0]) (t := 35) ?hr ?_; (case hd => rfl); (case hg => rfl); (case hr => first | (go_simp; done) | (go_simp; rfl))
              intro gb117 hg w49 hbox hb
              have n0_ := am (Kd.R_below (bC HO_4.out) hb); have n1_ := am (blk_below (bA BK101.out) hb); have n2_ := am (blk_below (bA BK102.out) hb); have n3_ := am (below_step (bB HB.out) hb); have n4_ := am (hbox); have n5_ := am ((by rw [hg]; exact (below_size (bB HB.out)) : w.heap.size ≤ gb117)); have n6_ := am ((by rw [hg]; exact (below_size (bB HB.out)) : w.heap.size ≤ gb117)); have n7_ := am ((by rw [hg]; exact Nat.ne_of_lt (blk_lt (g := gb101) (o := .cells #[.int .i64 a0_0, .slice A0_1 l0_1.length c0_1, .slice A0_2 l0_2.length c0_2] 35 (0, 0)) (bA BK101.out)) : gb101 ≠ gb117)); have n8_ := am ((by rw [hg]; exact Nat.ne_of_gt (blk_lt (g := gb101) (o := .cells #[.int .i64 a0_0, .slice A0_1 l0_1.length c0_1, .slice A0_2 l0_2.length c0_2] 35 (0, 0)) (bA BK101.out)) : gb117 ≠ gb101)); have n9_ := am ((by rw [hg]; exact Nat.ne_of_lt (blk_lt (g := gb102) (o := .cells #[.int .i64 0, .slice none 0 0, .slice none 0 0] 35 (0, 0)) (bA BK102.out)) : gb102 ≠ gb117)); have n10_ := am ((by rw [hg]; exact Nat.ne_of_gt (blk_lt (g := gb102) (o := .cells #[.int .i64 0, .slice none 0 0, .slice none 0 0] 35 (0, 0)) (bA BK102.out)) : gb117 ≠ gb102)); clear HO_4; clear BK101; clear BK102; clear HB; have HO_4 := n0_; have BK101 := n1_; have BK102 := n2_; have HB := n3_; have BK117 := n4_; have GW117 := n5_; have GE117 := n6_; have NB101_117 := n7_; have NB117_101 := n8_; have NB102_117 := n9_; have NB117_102 := n10_; clear n0_ n1_ n2_ n3_ n4_ n5_ n6_ n7_ n8_ n9_ n10_; clear hb hbox hg
              refine hK.out _ _ ⟨(blk_cell BK101.out 0).trans rfl, (blk_cell BK101.out 1).trans rfl, (blk_cell BK101.out 2).trans rfl⟩ (fun hHeld => ?_)
              clear hK K
              refine norm_ (a' := ?_) ?_ ?_; rotate_left
              ·show Act.put _ (some 8) _ = _
               simp only [Act.put, qa38, qb38, qc38, i64_w, i32_w]
               rfl
              refine two_ (i := 5) (j := 7) (Ni := some 74) (Nj := none) q38_28 q38_29 rfl rfl rfl rfl (two_of HT_.out (by kernel_rfl)) (by decide) (by decide) (fun K hK => ?_) (fun K hK => ?_)
              ·skip
               refine Kd.R_make_step (Kd.int .i64) _ 3 (by rfl) (N := 74) rfl 28 _ _ rfl (x4_2.length : Int) rfl rfl Try.underlying28 (.int .i64 0) 8 info3 rfl (by decide) (by omega) 0 (ok := fun _ => True) (okp := fun _ => True) rfl (fun _ hk => hk) trivial (of_decide_eq_true (by first | with_reducible assumption | assumption)) (Nat.le_trans (Nat.mul_le_mul_right _ (of_decide_eq_true (by first | with_reducible assumption | assumption) : (x4_2.length : Int).toNat ≤ 35184372088832)) (by omega)) (Below.refl _ _) (Nat.le_refl _) ?_
               intro v115 w50 ho51 hb hg_ hnew_
               clear hg_ hnew_
               (first | rw [← Ny114.out] at ho51 | (simp only [Int.reduceToNat] at ho51; rw [← Ny114.out] at ho51))
               have n0_ := am (Kd.R_below (bC HO_4.out) hb); have n1_ := am (Kd.R_lower ho51 (below_size (bB HB.out))); have n2_ := am (blk_below (bA BK101.out) hb); have n3_ := am (blk_below (bA BK102.out) hb); have n4_ := am (blk_below (bA BK117.out) hb); have n5_ := am (below_step (bB HB.out) hb); clear HO_4; clear BK101; clear BK102; clear BK117; clear HB; have HO_4 := n0_; have HO116 := n1_; have BK101 := n2_; have BK102 := n3_; have BK117 := n4_; have HB := n5_; clear n0_ n1_ n2_ n3_ n4_ n5_; clear hb ho51
               refine hK.out _ _ ⟨(blk_cell BK101.out 0).trans rfl, (blk_cell BK101.out 1).trans rfl, (blk_cell BK101.out 2).trans rfl⟩ (fun hHeld => ?_)
               clear hK K
               refine norm_ (a' := ?_) ?_ ?_; rotate_left
               ·show Act.put _ (some 74) _ = _
                simp only [Act.put, qa38, qb38, qc38, i64_w, i32_w]
                rfl
               refine one_ (i := 7) (N := none) q38_25 rfl rfl (one_of HT_.out (by kernel_rfl)) (by decide) (fun K hK => ?_)
               have hs52 : w50.cell? ⟨gb117, 0, none⟩ = some (.int .i64 0) := (blk_cell BK117.out 0).trans rfl
               have hfs52 := blk_frozen BK117.out 0; have hns52_0 := NB101_117.out; have hns52_1 := NB102_117.out; have hms52_0 := NB117_101.out; have hms52_1 := NB117_102.out
               have hs53 : w50.cell? ⟨gb117, 1, none⟩ = some (.slice none 0 0) := (blk_cell BK117.out 1).trans rfl
               have hfs53 := blk_frozen BK117.out 1; have hns53_0 := NB101_117.out; have hns53_1 := NB102_117.out; have hms53_0 := NB117_101.out; have hms53_1 := NB117_102.out
               have hs54 : w50.cell? ⟨gb117, 2, none⟩ = some (.slice none 0 0) := (blk_cell BK117.out 2).trans rfl
               have hfs54 := blk_frozen BK117.out 2; have hns54_0 := NB101_117.out; have hns54_1 := NB102_117.out; have hms54_0 := NB117_101.out; have hms54_1 := NB117_102.out
               refine skip_ (w1 := ?_) (by rfl) rfl ?_ ?_; rotate_left
               ·go_simp
                rfl
               refine hK.out _ _ ⟨((cell_far (p := ⟨gb117, _, none⟩) NB101_117.out _).trans (((cell_far (p := ⟨gb117, _, none⟩) NB101_117.out _).trans (((cell_far (p := ⟨gb117, _, none⟩) NB101_117.out _).trans (hHeld.1)))))), ((cell_far (p := ⟨gb117, _, none⟩) NB101_117.out _).trans (((cell_far (p := ⟨gb117, _, none⟩) NB101_117.out _).trans (((cell_far (p := ⟨gb117, _, none⟩) NB101_117.out _).trans (hHeld.2.1)))))), ((cell_far (p := ⟨gb117, _, none⟩) NB101_117.out _).trans (((cell_far (p := ⟨gb117, _, none⟩) NB101_117.out _).trans (((cell_far (p := ⟨gb117, _, none⟩) NB101_117.out _).trans (hHeld.2.2))))))⟩ (fun hHeld => ?_)
               clear hK K
               exact norm_ (by simp only [putAll, Act.put, qa38, qb38, qc38]) (hCont (v115, gb117) _ ⟨hHeld, (bC (Kd.R_mono (Kd.R_far (p := ⟨gb117, 2, none⟩) (Kd.R_far (p := ⟨gb117, 1, none⟩) (Kd.R_far (p := ⟨gb117, 0, none⟩) (Kd.R_types HO116.out BK117.out (by decide)) (fun _ hk => hk.2) (.int .i64 a0_0)) (fun _ hk => hk.2) (.slice none 0 0)) (fun _ hk => hk.2) (.slice none 0 0)) (fun _ hk => trivial))), (bC (Kd.R_mono (Kd.R_far (p := ⟨gb117, 2, none⟩) (Kd.R_far (p := ⟨gb117, 1, none⟩) (Kd.R_far (p := ⟨gb117, 0, none⟩) (Kd.R_types HO_4.out BK117.out (by decide)) (fun _ hk => hk.2) (.int .i64 a0_0)) (fun _ hk => hk.2) (.slice none 0 0)) (fun _ hk => hk.2) (.slice none 0 0)) (fun _ hk => trivial))), (by (with_reducible repeat (first | refine blk_drewN ?_ _ | refine blk_drew ?_ | refine blk_alloc ?_ _)); refine blk_far ?_ NB101_117.out _; (with_reducible repeat (first | refine blk_drewN ?_ _ | refine blk_drew ?_ | refine blk_alloc ?_ _)); refine blk_far ?_ NB101_117.out _; (with_reducible repeat (first | refine blk_drewN ?_ _ | refine blk_drew ?_ | refine blk_alloc ?_ _)); refine blk_far ?_ NB101_117.out _; (with_reducible repeat (first | refine blk_drewN ?_ _ | refine blk_drew ?_ | refine blk_alloc ?_ _)); exact BK101.out), (by (with_reducible repeat (first | refine blk_drewN ?_ _ | refine blk_drew ?_ | refine blk_alloc ?_ _)); refine blk_far ?_ NB102_117.out _; (with_reducible repeat (first | refine blk_drewN ?_ _ | refine blk_drew ?_ | refine blk_alloc ?_ _)); refine blk_far ?_ NB102_117.out _; (with_reducible repeat (first | refine blk_drewN ?_ _ | refine blk_drew ?_ | refine blk_alloc ?_ _)); refine blk_far ?_ NB102_117.out _; (with_reducible repeat (first | refine blk_drewN ?_ _ | refine blk_drew ?_ | refine blk_alloc ?_ _)); exact BK102.out), (by (with_reducible repeat (first | refine blk_drewN ?_ _ | refine blk_drew ?_ | refine blk_alloc ?_ _)); refine blk_put (cs := #[.int .i64 a0_0, .slice none 0 0, .slice none 0 0]) ?_ 2 _ rfl; (with_reducible repeat (first | refine blk_drewN ?_ _ | refine blk_drew ?_ | refine blk_alloc ?_ _)); refine blk_put (cs := #[.int .i64 a0_0, .slice none 0 0, .slice none 0 0]) ?_ 1 _ rfl; (with_reducible repeat (first | refine blk_drewN ?_ _ | refine blk_drew ?_ | refine blk_alloc ?_ _)); refine blk_put (cs := #[.int .i64 0, .slice none 0 0, .slice none 0 0]) ?_ 0 _ rfl; (with_reducible repeat (first | refine blk_drewN ?_ _ | refine blk_drew ?_ | refine blk_alloc ?_ _)); exact BK117.out), GW117.out, GE117.out, NB101_117.out, NB117_101.out, NB102_117.out, NB117_102.out, (bB HB.out)⟩)
              ·skip
               have hs50 : w49.cell? ⟨gb117, 0, none⟩ = some (.int .i64 0) := (blk_cell BK117.out 0).trans rfl
               have hfs50 := blk_frozen BK117.out 0; have hns50_0 := NB101_117.out; have hns50_1 := NB102_117.out; have hms50_0 := NB117_101.out; have hms50_1 := NB117_102.out
               have hs51 : w49.cell? ⟨gb117, 1, none⟩ = some (.slice none 0 0) := (blk_cell BK117.out 1).trans rfl
               have hfs51 := blk_frozen BK117.out 1; have hns51_0 := NB101_117.out; have hns51_1 := NB102_117.out; have hms51_0 := NB117_101.out; have hms51_1 := NB117_102.out
               have hs52 : w49.cell? ⟨gb117, 2, none⟩ = some (.slice none 0 0) := (blk_cell BK117.out 2).trans rfl
               have hfs52 := blk_frozen BK117.out 2; have hns52_0 := NB101_117.out; have hns52_1 := NB102_117.out; have hms52_0 := NB117_101.out; have hms52_1 := NB117_102.out
               refine skip_ (w1 := ?_) (by rfl) rfl ?_ ?_; rotate_left
               ·go_simp
                rfl
               refine hK.out _ _ ⟨((cell_far (p := ⟨gb117, _, none⟩) NB101_117.out _).trans (((cell_far (p := ⟨gb117, _, none⟩) NB101_117.out _).trans (((cell_far (p := ⟨gb117, _, none⟩) NB101_117.out _).trans (hHeld.1)))))), ((cell_far (p := ⟨gb117, _, none⟩) NB101_117.out _).trans (((cell_far (p := ⟨gb117, _, none⟩) NB101_117.out _).trans (((cell_far (p := ⟨gb117, _, none⟩) NB101_117.out _).trans (hHeld.2.1)))))), ((cell_far (p := ⟨gb117, _, none⟩) NB101_117.out _).trans (((cell_far (p := ⟨gb117, _, none⟩) NB101_117.out _).trans (((cell_far (p := ⟨gb117, _, none⟩) NB101_117.out _).trans (hHeld.2.2))))))⟩ (fun hHeld => ?_)
               clear hK K
               refine one_ (i := 5) (N := some 74) q38_25 rfl rfl (one_of HT_.out (by kernel_rfl)) (by decide) (fun K hK => ?_)
               refine Kd.R_make_step (Kd.int .i64) _ 3 (by rfl) (N := 74) rfl 28 _ _ rfl (x4_2.length : Int) rfl rfl Try.underlying28 (.int .i64 0) 8 info3 rfl (by decide) (by omega) 0 (ok := fun _ => True) (okp := fun _ => True) rfl (fun _ hk => hk) trivial (of_decide_eq_true (by first | with_reducible assumption | assumption)) (Nat.le_trans (Nat.mul_le_mul_right _ (of_decide_eq_true (by first | with_reducible assumption | assumption) : (x4_2.length : Int).toNat ≤ 35184372088832)) (by omega)) (Below.refl _ _) (Nat.le_refl _) ?_
               intro v115 w53 ho54 hb hg_ hnew_
               clear hg_ hnew_
               (first | rw [← Ny114.out] at ho54 | (simp only [Int.reduceToNat] at ho54; rw [← Ny114.out] at ho54))
               have n0_ := am (Kd.R_below (bC ((Kd.R_mono (Kd.R_far (p := ⟨gb117, 2, none⟩) (Kd.R_far (p := ⟨gb117, 1, none⟩) (Kd.R_far (p := ⟨gb117, 0, none⟩) (Kd.R_types HO_4.out BK117.out (by decide)) (fun _ hk => hk.2) (.int .i64 a0_0)) (fun _ hk => hk.2) (.slice none 0 0)) (fun _ hk => hk.2) (.slice none 0 0)) (fun _ h_ => h_.1)))) hb); have n1_ := am (Kd.R_lower ho54 (below_size (bB HB.out))); have n2_ := am (blk_below (g := gb101) (o := .cells #[.int .i64 a0_0, .slice A0_1 l0_1.length c0_1, .slice A0_2 l0_2.length c0_2] 35 (0, 0)) (by (with_reducible repeat (first | refine blk_drewN ?_ _ | refine blk_drew ?_ | refine blk_alloc ?_ _)); refine blk_far ?_ NB101_117.out _; (with_reducible repeat (first | refine blk_drewN ?_ _ | refine blk_drew ?_ | refine blk_alloc ?_ _)); refine blk_far ?_ NB101_117.out _; (with_reducible repeat (first | refine blk_drewN ?_ _ | refine blk_drew ?_ | refine blk_alloc ?_ _)); refine blk_far ?_ NB101_117.out _; (with_reducible repeat (first | refine blk_drewN ?_ _ | refine blk_drew ?_ | refine blk_alloc ?_ _)); exact BK101.out) hb); have n3_ := am (blk_below (g := gb102) (o := .cells #[.int .i64 0, .slice none 0 0, .slice none 0 0] 35 (0, 0)) (by (with_reducible repeat (first | refine blk_drewN ?_ _ | refine blk_drew ?_ | refine blk_alloc ?_ _)); refine blk_far ?_ NB102_117.out _; (with_reducible repeat (first | refine blk_drewN ?_ _ | refine blk_drew ?_ | refine blk_alloc ?_ _)); refine blk_far ?_ NB102_117.out _; (with_reducible repeat (first | refine blk_drewN ?_ _ | refine blk_drew ?_ | refine blk_alloc ?_ _)); refine blk_far ?_ NB102_117.out _; (with_reducible repeat (first | refine blk_drewN ?_ _ | refine blk_drew ?_ | refine blk_alloc ?_ _)); exact BK102.out) hb); have n4_ := am (blk_below (g := gb117) (o := .cells #[.int .i64 a0_0, .slice none 0 0, .slice none 0 0] 35 (0, 0)) (by (with_reducible repeat (first | refine blk_drewN ?_ _ | refine blk_drew ?_ | refine blk_alloc ?_ _)); refine blk_put (cs := #[.int .i64 a0_0, .slice none 0 0, .slice none 0 0]) ?_ 2 _ rfl; (with_reducible repeat (first | refine blk_drewN ?_ _ | refine blk_drew ?_ | refine blk_alloc ?_ _)); refine blk_put (cs := #[.int .i64 a0_0, .slice none 0 0, .slice none 0 0]) ?_ 1 _ rfl; (with_reducible repeat (first | refine blk_drewN ?_ _ | refine blk_drew ?_ | refine blk_alloc ?_ _)); refine blk_put (cs := #[.int .i64 0, .slice none 0 0, .slice none 0 0]) ?_ 0 _ rfl; (with_reducible repeat (first | refine blk_drewN ?_ _ | refine blk_drew ?_ | refine blk_alloc ?_ _)); exact BK117.out) hb); have n5_ := am (below_step (bB HB.out) hb); clear HO_4; clear BK101; clear BK102; clear BK117; clear HB; have HO_4 := n0_; have HO116 := n1_; have BK101 := n2_; have BK102 := n3_; have BK117 := n4_; have HB := n5_; clear n0_ n1_ n2_ n3_ n4_ n5_; clear hb ho54
               refine hK.out _ _ ⟨(blk_cell BK101.out 0).trans rfl, (blk_cell BK101.out 1).trans rfl, (blk_cell BK101.out 2).trans rfl⟩ (fun hHeld => ?_)
               clear hK K
               refine norm_ (a' := ?_) ?_ ?_; rotate_left
               ·show Act.put _ (some 74) _ = _
                simp only [Act.put, qa38, qb38, qc38, i64_w, i32_w]
                rfl
               exact norm_ (by simp only [putAll, Act.put, qa38, qb38, qc38]) (hCont (v115, gb117) _ ⟨hHeld, (bC HO116.out), (bC HO_4.out), (bA BK101.out), (bA BK102.out), (bA BK117.out), GW117.out, GE117.out, NB101_117.out, NB117_101.out, NB102_117.out, NB117_102.out, (bB HB.out)⟩)
            rintro ⟨v115, gb117⟩ w55 ⟨hS_, h0_, h1_, h2_, h3_, h4_, h5_, h6_, h7_, h8_, h9_, h10_, h11_⟩
            have n0_ : Aside0 (Kd.R (Kd.int .i64) 3 w55 w.heap.size (fun _ => True) v115 y114) := ⟨h0_⟩
            have n1_ : Aside0 (Kd.R Kd.bool 4 w55 w.heap.size (fun _ => True) (.slice Ao48 x4_2.length co48) x4_2) := ⟨h1_⟩
            have n2_ : Aside0 (w55.heap[gb101]? = some (.cells #[.int .i64 a0_0, .slice A0_1 l0_1.length c0_1, .slice A0_2 l0_2.length c0_2] 35 (0, 0))) := ⟨h2_⟩
            have n3_ : Aside0 (w55.heap[gb102]? = some (.cells #[.int .i64 0, .slice none 0 0, .slice none 0 0] 35 (0, 0))) := ⟨h3_⟩
            have n4_ : Aside0 (w55.heap[gb117]? = some (.cells #[.int .i64 a0_0, .slice none 0 0, .slice none 0 0] 35 (0, 0))) := ⟨h4_⟩
            have n5_ : Aside0 (w.heap.size ≤ gb117) := ⟨h5_⟩
            have n6_ : Aside0 (w.heap.size ≤ gb117) := ⟨h6_⟩
            have n7_ : Aside0 (gb101 ≠ gb117) := ⟨h7_⟩
            have n8_ : Aside0 (gb117 ≠ gb101) := ⟨h8_⟩
            have n9_ : Aside0 (gb102 ≠ gb117) := ⟨h9_⟩
            have n10_ : Aside0 (gb117 ≠ gb102) := ⟨h10_⟩
            have n11_ : Aside0 (Below w.heap.size w w55) := ⟨h11_⟩
            clear HO_4; clear BK101; clear BK102; clear HB; clear h0_ h1_ h2_ h3_ h4_ h5_ h6_ h7_ h8_ h9_ h10_ h11_; have HO116 := n0_; have HO_4 := n1_; have BK101 := n2_; have BK102 := n3_; have BK117 := n4_; have GW117 := n5_; have GE117 := n6_; have NB101_117 := n7_; have NB117_101 := n8_; have NB102_117 := n9_; have NB117_102 := n10_; have HB := n11_; clear n0_ n1_ n2_ n3_ n4_ n5_ n6_ n7_ n8_ n9_ n10_ n11_
            have hHeld : w55.cell? ⟨gb101, 0, none⟩ = some (.int .i64 a0_0) ∧ w55.cell? ⟨gb101, 1, none⟩ = some (.slice A0_1 l0_1.length c0_1) ∧ w55.cell? ⟨gb101, 2, none⟩ = some (.slice A0_2 l0_2.length c0_2) := hS_
            refine norm_ (a' := ?_) ?_ ?_; rotate_left
            ·simp only [putAll, Act.put, qa38, qb38, qc38]
             rfl
            refine pure_ (i := 8) (N := some 9) (v := ?_) (a' := ?_) q38_30 rfl rfl (any_of HT_.out (by kernel_rfl)) (fun _ _ _ h => h) (Or.inl ⟨by rfl, ?_⟩) ?_ ?_; rotate_left
            ·intro w'
             go_simp; with_reducible rfl
            rotate_left
            ·simp only [Act.put, qa38, qb38, qc38, i64_w, i32_w]
             rfl
            refine done_ (done_of HT_.out (by kernel_rfl)) ?_
            try go_wp2
            go_loopg [76] k2 (fun kq v76 w' => ∃ (x9_3 : List Int) (x76_3 : Int), v76 = .int .i64 x76_3 ∧ Aside0 (impl_TrimCircuit.l2 kq (wrap64 (3 + a0_0)) x4_2 x9_3 (wrap64 (3 + a0_0)) x76_3 a0_0 l0_1 l0_2 a0_0 = some (r1, r2, r3)) ∧ Aside0 (kq ≤ k2) ∧ Aside0 (Kd.R Kd.bool 4 w' w.heap.size (fun _ => True) (.slice Ao48 x4_2.length co48) x4_2) ∧ Aside0 (Kd.R (Kd.int .i64) 3 w' w.heap.size (fun _ => True) v115 x9_3) ∧ Aside0 (w'.heap[gb101]? = some (.cells #[.int .i64 a0_0, (.slice A0_1 l0_1.length c0_1), (.slice A0_2 l0_2.length c0_2)] 35 (0, 0))) ∧ Aside0 (w'.heap[gb102]? = some (.cells #[.int .i64 0, (.slice none 0 0), (.slice none 0 0)] 35 (0, 0))) ∧ Aside0 (w'.heap[gb117]? = some (.cells #[.int .i64 a0_0, (.slice none 0 0), (.slice none 0 0)] 35 (0, 0))) ∧ Aside0 (Below w.heap.size w w'))
            case atStart => exact ⟨(y114), (0), (by first | rfl | (simp; done) | (simp [*]; done)), H', ⟨Nat.le_refl _⟩, ⟨by (with_reducible repeat (first | apply Kd.R_alloc | apply Kd.R_drewN | apply Kd.R_drew)); exact HO_4.out⟩, ⟨by (with_reducible repeat (first | apply Kd.R_alloc | apply Kd.R_drewN | apply Kd.R_drew)); exact HO116.out⟩, ⟨bA BK101.out⟩, ⟨bA BK102.out⟩, ⟨bA BK117.out⟩, ⟨bB HB.out⟩⟩
            case round =>
             clear H'
             try clear p1
             try clear q1
             try clear hx1
             try clear c2
             try clear p2
             try clear c3
             try clear p3
             try clear q3
             try clear hx3
             try clear hf3
             try clear c4
             try clear p6
             try clear p10
             try clear q10
             try clear hx10
             try clear p11
             try clear q11
             try clear hx11
             try clear c26
             try clear c26b0
             try clear c28
             try clear c29
             try clear q30
             try clear c31
             try clear c32
             try clear c33
             try clear c34
             try clear c35
             try clear p36
             try clear q36
             try clear hx36
             try clear hf36
             try clear c37
             try clear c38
             try clear p39
             try clear q39
             try clear hx39
             try clear hf39
             try clear c45
             try clear c45b0
             try clear c45b1
             try clear c46
             try clear c46b0
             try clear c46b1
             try clear hx109_0
             try clear hx110_0
             try clear hx110_1
             try clear hx110_10
             try clear hx110_2
             try clear hx110_3
             try clear hx110_4
             try clear hx110_5
             try clear hx110_6
             try clear hx110_7
             try clear hx110_8
             try clear hx110_9
             try clear hx111_0
             try clear hx111_1
             try clear hx111_10
             try clear hx111_2
             try clear hx111_3
             try clear hx111_4
             try clear hx111_5
             try clear hx111_6
             try clear hx111_7
             try clear hx111_8
             try clear hx111_9
             try clear hx36_0
             try clear hx39_0
             try clear p109
             try clear p111
             try clear p36
             try clear p39
             try clear q109
             try clear q111
             try clear q36
             try clear q39
             obtain ⟨x9_3, x76_3, rfl, HA, HK3, HO_4, HO_9, BK101, BK102, BK117, HB⟩ := hrel
             cases gk with
             | zero => exact absurd HA.out (by simp [impl_TrimCircuit.l2])
             | succ k3 =>
              have H := HA.out; clear HA
              simp only [impl_TrimCircuit.l2] at H
              by_cases c56 : x76_3 < (wrap64 (3 + a0_0))
              ·rw [if_pos c56] at H
               have c56b0 : decide (x76_3 < (wrap64 (3 + a0_0))) = true := decide_eq_true c56
               clear c56
               by_cases c57 : 0 ≤ x76_3
               ·rw [if_pos c57] at H
                have c57b0 : decide (0 ≤ x76_3) = true := decide_eq_true c57
                clear c57
                by_cases c58 : x76_3 < (x9_3.length : Int)
                ·rw [if_pos c58] at H
                 have c58b0 : decide (x76_3 < (x9_3.length : Int)) = true := decide_eq_true c58
                 clear c58
                 obtain ⟨y118, hy118⟩ : ∃ y_ : List Int, y_ = (x9_3.set (x76_3 : Int).toNat x76_3) := ⟨_, rfl⟩
                 replace H : (impl_TrimCircuit.l2 k3 (wrap64 (3 + a0_0)) x4_2 y118 (wrap64 (3 + a0_0)) (wrap64 (x76_3 + 1)) a0_0 l0_1 l0_2 a0_0) = some (r1, r2, r3) := by first | (rw [hy118]; with_reducible exact H) | (have H2_ := (Option.bind_some _ _).symm.trans H; rw [hy118]; with_reducible exact H2_) | (have H2_ := (Option.bind_some _ _).symm.trans H; with_reducible exact H2_) | with_reducible exact H | (rw [hy118]; exact H) | exact H
                 have Ny118 := am hy118; clear hy118
                 have H' := am H
                 clear H
                 have p59 : 0 ≤ (x76_3 : Int) := of_decide_eq_true (by first | with_reducible assumption | assumption)
                 have q59 : (x76_3 : Int) < ((x9_3.length : Int) : Int) := of_decide_eq_true (by first | with_reducible assumption | assumption)
                 obtain ⟨go59, co59, eo59, gb59, gl59, cl59, HG59⟩ := Kd.R_form HO_9.out (by omega)
                 (first | cases eo59 | (injection eo59 with ea_ en_ ec_; (first | subst ea_ | (injection ea_ with ea_; subst ea_)); subst ec_; clear en_))
                 have GB59 := am gb59; have GG59 := am HG59; clear gb59 gl59 HG59
                 obtain ⟨hx59_0, hf59_0⟩ := Kd.R_celln 0 HO_9.out (x76_3 : Int) p59 q59
                 replace p59 := eq_true p59
                 replace q59 := eq_true q59
                 have HP60 := Kd.R_putg HO_9.out (x76_3 : Int) x76_3
                 go_wp2_with (first | ((with_reducible refine gate_store (t := 3) (p := 82) rfl ?_); refine store_event (t := 3) (p := 82) (v := ?vo_w61) (w1 := (wr.setCell ⟨go59, (x76_3 : Int).toNat, none⟩ (.int .i64 x76_3))) ?hg ?ho ?hn ?hr ?_; (case ho => rfl); (case hg => rfl); (case hn => rfl); (case hr => first | (go_simp; done) | (go_simp; rfl)); intro w61 hw; have hg : wr.grownBy w61 (some go59) := (by rw [hw]; exact HP60.2); have hp_ : Kd.R (Kd.int .i64) 3 w61 w.heap.size (fun _ => True) (.slice (some ⟨go59, 0, none⟩) x9_3.length co59) y118 := (by rw [hw, Ny118.out]; exact HP60.1); clear HP60; have n0_ := am (Kd.R_over' (v := (.slice (some ⟨go59, 0, none⟩) x9_3.length co59)) (bC HO_4.out) (Kd.R_typed HO_9.out) (by decide) hg); have n1_ := am (hp_); have n2_ := am (blk_grown (g := gb101) (o := .cells #[.int .i64 a0_0, .slice A0_1 l0_1.length c0_1, .slice A0_2 l0_2.length c0_2] 35 (0, 0)) (bA BK101.out) hg (Kd.R_ne HO_9.out BK101.out (by decide))); have n3_ := am (blk_grown (g := gb102) (o := .cells #[.int .i64 0, .slice none 0 0, .slice none 0 0] 35 (0, 0)) (bA BK102.out) hg (Kd.R_ne HO_9.out BK102.out (by decide))); have n4_ := am (blk_grown (g := gb117) (o := .cells #[.int .i64 a0_0, .slice none 0 0, .slice none 0 0] 35 (0, 0)) (bA BK117.out) hg (Kd.R_ne HO_9.out BK117.out (by decide))); have n5_ := am ((by rw [hw]; exact below_set (HB.out) GB59.out : Below w.heap.size w w61)); clear HO_4; clear HO_9; clear BK101; clear BK102; clear BK117; clear HB; have HO_4 := n0_; have HO_9 := n1_; have BK101 := n2_; have BK102 := n3_; have BK117 := n4_; have HB := n5_; clear n0_ n1_ n2_ n3_ n4_ n5_; clear hg hw hp_))
                 go_roundg k3
                 case measure => have := HK1.out; have := HK2.out; have := HK3.out; omega
                 case rel => exact ⟨(y118), (wrap64 (x76_3 + 1)), (by first | rfl | (simp; done) | (simp [*]; done)), H', ⟨by have := HK1.out; have := HK2.out; have := HK3.out; omega⟩, ⟨by (with_reducible repeat (first | apply Kd.R_alloc | apply Kd.R_drewN | apply Kd.R_drew)); exact HO_4.out⟩, ⟨by (with_reducible repeat (first | apply Kd.R_alloc | apply Kd.R_drewN | apply Kd.R_drew)); exact HO_9.out⟩, ⟨bA BK101.out⟩, ⟨bA BK102.out⟩, ⟨bA BK117.out⟩, ⟨bB HB.out⟩⟩
                ·rw [if_neg c58] at H
                 exact absurd H (by simp)
               ·rw [if_neg c57] at H
                exact absurd H (by simp)
              ·rw [if_neg c56] at H
               have c56b0 : decide (x76_3 < (wrap64 (3 + a0_0))) = false := decide_eq_false c56
               clear c56
               have H' := am H
               clear H; have hnb62 := NB101_102.out; have hnc62 := NB102_101.out; have hnb63 := NB101_117.out; have hnc63 := NB117_101.out
               have hcz64_0 : wr.cell? ⟨gb101, 0, none⟩ = some (.int .i64 a0_0) := (blk_cell BK101.out 0).trans rfl
               have hcz64_1 : wr.cell? ⟨gb101, 1, none⟩ = some (.slice A0_1 l0_1.length c0_1) := (blk_cell BK101.out 1).trans rfl
               have hcz64_2 : wr.cell? ⟨gb101, 2, none⟩ = some (.slice A0_2 l0_2.length c0_2) := (blk_cell BK101.out 2).trans rfl
               have hfz64_0 := blk_frozen BK101.out 0; have hfz64_1 := blk_frozen BK101.out 1; have hfz64_2 := blk_frozen BK101.out 2
               go_wp2
               go_loopg [87] k3 (fun kq v87 w' => ∃ (x9_4 : List Int) (x87_4 : Int) (x118001_4 : List (S46)) (u118001 : Value), v87 = .int .i64 x87_4 ∧ Aside0 (impl_TrimCircuit.l3 kq (wrap64 (3 + a0_0)) x4_2 x9_4 l0_1 (l0_1.length : Int) x87_4 a0_0 l0_1 l0_2 a0_0 x118001_4 = some (r1, r2, r3)) ∧ Aside0 (kq ≤ k3) ∧ Aside0 (Kd.R Kd.bool 4 w' w.heap.size (fun _ => True) (.slice Ao48 x4_2.length co48) x4_2) ∧ Aside0 (Kd.R (Kd.int .i64) 3 w' w.heap.size (fun _ => True) v115 x9_4) ∧ Aside0 (Kd.R k46 46 w' w.heap.size (fun _ => True) u118001 x118001_4) ∧ Aside0 (w'.heap[gb101]? = some (.cells #[.int .i64 a0_0, (.slice A0_1 l0_1.length c0_1), (.slice A0_2 l0_2.length c0_2)] 35 (0, 0))) ∧ Aside0 (w'.heap[gb102]? = some (.cells #[.int .i64 0, (.slice none 0 0), (.slice none 0 0)] 35 (0, 0))) ∧ Aside0 (w'.heap[gb117]? = some (.cells #[.int .i64 a0_0, u118001, (.slice none 0 0)] 35 (0, 0))) ∧ Aside0 (Below w.heap.size w w'))
               case atStart => exact ⟨(x9_3), (0), (([] : List (S46))), (.slice none 0 0), (by first | rfl | (simp; done) | (simp [*]; done)), H', ⟨Nat.le_refl _⟩, ⟨by (with_reducible repeat (first | apply Kd.R_alloc | apply Kd.R_drewN | apply Kd.R_drew)); exact HO_4.out⟩, ⟨by (with_reducible repeat (first | apply Kd.R_alloc | apply Kd.R_drewN | apply Kd.R_drew)); exact HO_9.out⟩, ⟨by first | exact Kd.R_nil _ _ _ _ _ | exact Kd.N_nil _ _ _ _ _ | exact Kd.V_nil _ _ _ _ _ | exact Kd.Q_nil _ _ _ _ _ | exact Kd.S_nil _ _ _ _ _⟩, ⟨bA BK101.out⟩, ⟨bA BK102.out⟩, ⟨bA BK117.out⟩, ⟨bB HB.out⟩⟩
               case round =>
                clear H'
                try clear p1
                try clear q1
                try clear hx1
                try clear c2
                try clear p2
                try clear c3
                try clear p3
                try clear q3
                try clear hx3
                try clear hf3
                try clear c4
                try clear c5
                try clear p5
                try clear q5
                try clear hx5
                try clear hf5
                try clear c6
                try clear p6
                try clear p10
                try clear q10
                try clear hx10
                try clear p11
                try clear q11
                try clear hx11
                try clear c26
                try clear c26b0
                try clear c28
                try clear c29
                try clear q30
                try clear c31
                try clear c32
                try clear c33
                try clear c34
                try clear c35
                try clear p36
                try clear q36
                try clear hx36
                try clear hf36
                try clear c37
                try clear c38
                try clear p39
                try clear q39
                try clear hx39
                try clear hf39
                try clear c45
                try clear c45b0
                try clear c45b1
                try clear c46
                try clear c46b0
                try clear c46b1
                try clear c56
                try clear c56b0
                try clear c57
                try clear c57b0
                try clear c58
                try clear c58b0
                try clear p59
                try clear q59
                try clear hx59
                try clear hf59
                try clear c62
                try clear c63
                try clear p64
                try clear hcz64_0
                try clear hcz64_1
                try clear hcz64_2
                try clear hfz64_0
                try clear hfz64_1
                try clear hfz64_2
                try clear hx109_0
                try clear hx110_0
                try clear hx110_1
                try clear hx110_10
                try clear hx110_2
                try clear hx110_3
                try clear hx110_4
                try clear hx110_5
                try clear hx110_6
                try clear hx110_7
                try clear hx110_8
                try clear hx110_9
                try clear hx111_0
                try clear hx111_1
                try clear hx111_10
                try clear hx111_2
                try clear hx111_3
                try clear hx111_4
                try clear hx111_5
                try clear hx111_6
                try clear hx111_7
                try clear hx111_8
                try clear hx111_9
                try clear hx36_0
                try clear hx39_0
                try clear hx59_0
                try clear p1
                try clear p10
                try clear p109
                try clear p11
                try clear p111
                try clear p2
                try clear p3
                try clear p36
                try clear p39
                try clear p59
                try clear p6
                try clear q1
                try clear q10
                try clear q109
                try clear q11
                try clear q111
                try clear q3
                try clear q30
                try clear q36
                try clear q39
                try clear q59
                obtain ⟨x9_4, x87_4, x118001_4, u118001, rfl, HA, HK4, HO_4, HO_9, HO_118001, BK101, BK102, BK117, HB⟩ := hrel
                cases gk with
                | zero => exact absurd HA.out (by simp [impl_TrimCircuit.l3])
                | succ k4 =>
                 have H := HA.out; clear HA
                 simp only [impl_TrimCircuit.l3] at H
                 by_cases c65 : x87_4 < (l0_1.length : Int)
                 ·rw [if_pos c65] at H
                  have c65b0 : decide (x87_4 < (l0_1.length : Int)) = true := decide_eq_true c65
                  clear c65
                  by_cases c66 : 0 ≤ x87_4
                  ·rw [if_pos c66] at H
                   have c66b0 : decide (0 ≤ x87_4) = true := decide_eq_true c66
                   clear c66
                   by_cases c67 : x87_4 < (l0_1.length : Int)
                   ·rw [if_pos c67] at H
                    have c67b0 : decide (x87_4 < (l0_1.length : Int)) = true := decide_eq_true c67
                    clear c67
                    obtain ⟨ji68, hji68⟩ : ∃ j_ : Int, (wrap64 ((wrap64 (3 + a0_0)) + x87_4)) = j_ := ⟨_, rfl⟩
                    replace H : (if 0 ≤ (ji68) then (if (ji68) < (x4_2.length : Int) then (if rdOf false x4_2 (ji68) = true then (if 0 ≤ ((rd_T46 l0_1 x87_4).f1) then (if ((rd_T46 l0_1 x87_4).f1) < (x9_4.length : Int) then (if 0 ≤ ((rd_T46 l0_1 x87_4).f2) then (if ((rd_T46 l0_1 x87_4).f2) < (x9_4.length : Int) then (if x118001_4.length < 1599289640401 then ((some (x118001_4 ++ [(⟨(⟨(rd_T46 l0_1 x87_4).f0.f0, (rd_T46 l0_1 x87_4).f0.f1, (rd_T46 l0_1 x87_4).f0.f2, (rd_T46 l0_1 x87_4).f0.f3, (rd_T46 l0_1 x87_4).f0.f4, (rd_T46 l0_1 x87_4).f0.f5, (rd_T46 l0_1 x87_4).f0.f6, (rd_T46 l0_1 x87_4).f0.f7, (rd_T46 l0_1 x87_4).f0.f8⟩ : S23), rd x9_4 ((rd_T46 l0_1 x87_4).f1), rd x9_4 ((rd_T46 l0_1 x87_4).f2)⟩ : S46)] : List (S46))).bind fun y124 => (if (ji68) < (x9_4.length : Int) then (impl_TrimCircuit.l3 k4 (wrap64 (3 + a0_0)) x4_2 (x9_4.set ((ji68) : Int).toNat (wrap64 (wrap64 (2 + a0_0) + (y124.length : Int)))) l0_1 (l0_1.length : Int) (wrap64 (x87_4 + 1)) a0_0 l0_1 l0_2 a0_0 y124) else (none))) else (none)) else (none)) else (none)) else (none)) else (none)) else (impl_TrimCircuit.l3 k4 (wrap64 (3 + a0_0)) x4_2 x9_4 l0_1 (l0_1.length : Int) (wrap64 (x87_4 + 1)) a0_0 l0_1 l0_2 a0_0 x118001_4)) else (none)) else (none)) = some (r1, r2, r3) := by first | (rw [hji68] at H; exact H) | (simp only [hji68] at H ⊢; exact H)
                    have hji68w : (IntKind.i64.wrap ((wrap64 (3 + a0_0)) + x87_4)) = ji68 := (i64_w _).trans hji68
                    by_cases c69 : 0 ≤ (ji68)
                    ·rw [if_pos c69] at H
                     have c69b0 : decide (0 ≤ (ji68)) = true := decide_eq_true c69
                     clear c69
                     by_cases c70 : (ji68) < (x4_2.length : Int)
                     ·rw [if_pos c70] at H
                      have c70b0 : decide ((ji68) < (x4_2.length : Int)) = true := decide_eq_true c70
                      clear c70
                      obtain ⟨bq71, hbq71⟩ : ∃ b_ : Bool, b_ = (rdOf false x4_2 (ji68)) := ⟨_, rfl⟩
                      replace H : (if bq71 = true then (if 0 ≤ ((rd_T46 l0_1 x87_4).f1) then (if ((rd_T46 l0_1 x87_4).f1) < (x9_4.length : Int) then (if 0 ≤ ((rd_T46 l0_1 x87_4).f2) then (if ((rd_T46 l0_1 x87_4).f2) < (x9_4.length : Int) then (if x118001_4.length < 1599289640401 then ((some (x118001_4 ++ [(⟨(⟨(rd_T46 l0_1 x87_4).f0.f0, (rd_T46 l0_1 x87_4).f0.f1, (rd_T46 l0_1 x87_4).f0.f2, (rd_T46 l0_1 x87_4).f0.f3, (rd_T46 l0_1 x87_4).f0.f4, (rd_T46 l0_1 x87_4).f0.f5, (rd_T46 l0_1 x87_4).f0.f6, (rd_T46 l0_1 x87_4).f0.f7, (rd_T46 l0_1 x87_4).f0.f8⟩ : S23), rd x9_4 ((rd_T46 l0_1 x87_4).f1), rd x9_4 ((rd_T46 l0_1 x87_4).f2)⟩ : S46)] : List (S46))).bind fun y124 => (if (ji68) < (x9_4.length : Int) then (impl_TrimCircuit.l3 k4 (wrap64 (3 + a0_0)) x4_2 (x9_4.set ((ji68) : Int).toNat (wrap64 (wrap64 (2 + a0_0) + (y124.length : Int)))) l0_1 (l0_1.length : Int) (wrap64 (x87_4 + 1)) a0_0 l0_1 l0_2 a0_0 y124) else (none))) else (none)) else (none)) else (none)) else (none)) else (none)) else (impl_TrimCircuit.l3 k4 (wrap64 (3 + a0_0)) x4_2 x9_4 l0_1 (l0_1.length : Int) (wrap64 (x87_4 + 1)) a0_0 l0_1 l0_2 a0_0 x118001_4)) = some (r1, r2, r3) := by rw [← hbq71] at H; exact H
                      have Nbq71 := am hbq71; clear hbq71
                      by_cases c72 : bq71 = true
                      ·subst c72
                       have H1 : (if 0 ≤ ((rd_T46 l0_1 x87_4).f1) then (if ((rd_T46 l0_1 x87_4).f1) < (x9_4.length : Int) then (if 0 ≤ ((rd_T46 l0_1 x87_4).f2) then (if ((rd_T46 l0_1 x87_4).f2) < (x9_4.length : Int) then (if x118001_4.length < 1599289640401 then ((some (x118001_4 ++ [(⟨(⟨(rd_T46 l0_1 x87_4).f0.f0, (rd_T46 l0_1 x87_4).f0.f1, (rd_T46 l0_1 x87_4).f0.f2, (rd_T46 l0_1 x87_4).f0.f3, (rd_T46 l0_1 x87_4).f0.f4, (rd_T46 l0_1 x87_4).f0.f5, (rd_T46 l0_1 x87_4).f0.f6, (rd_T46 l0_1 x87_4).f0.f7, (rd_T46 l0_1 x87_4).f0.f8⟩ : S23), rd x9_4 ((rd_T46 l0_1 x87_4).f1), rd x9_4 ((rd_T46 l0_1 x87_4).f2)⟩ : S46)] : List (S46))).bind fun y124 => (if (ji68) < (x9_4.length : Int) then (impl_TrimCircuit.l3 k4 (wrap64 (3 + a0_0)) x4_2 (x9_4.set ((ji68) : Int).toNat (wrap64 (wrap64 (2 + a0_0) + (y124.length : Int)))) l0_1 (l0_1.length : Int) (wrap64 (x87_4 + 1)) a0_0 l0_1 l0_2 a0_0 y124) else (none))) else (none)) else (none)) else (none)) else (none)) else (none)) = some (r1, r2, r3) := by rw [if_pos rfl] at H; exact H
                       clear H; have H := H1; clear H1
                       by_cases c73 : 0 ≤ ((rd_T46 l0_1 x87_4).f1)
                       ·rw [if_pos c73] at H
                        have c73b0 : decide (0 ≤ ((rd_T46 l0_1 x87_4).f1)) = true := decide_eq_true c73
                        clear c73
                        by_cases c74 : ((rd_T46 l0_1 x87_4).f1) < (x9_4.length : Int)
                        ·rw [if_pos c74] at H
                         have c74b0 : decide (((rd_T46 l0_1 x87_4).f1) < (x9_4.length : Int)) = true := decide_eq_true c74
                         clear c74
                         by_cases c75 : 0 ≤ ((rd_T46 l0_1 x87_4).f2)
                         ·rw [if_pos c75] at H
                          have c75b0 : decide (0 ≤ ((rd_T46 l0_1 x87_4).f2)) = true := decide_eq_true c75
                          clear c75
                          by_cases c76 : ((rd_T46 l0_1 x87_4).f2) < (x9_4.length : Int)
                          ·rw [if_pos c76] at H
                           have c76b0 : decide (((rd_T46 l0_1 x87_4).f2) < (x9_4.length : Int)) = true := decide_eq_true c76
                           clear c76
                           by_cases c77 : x118001_4.length < 1599289640401
                           ·rw [if_pos c77] at H
                            have LMc77 := am c77; clear c77
                            obtain ⟨y124, hy124⟩ : ∃ y_ : List (S46), y_ = (x118001_4 ++ [(⟨(⟨(rd_T46 l0_1 x87_4).f0.f0, (rd_T46 l0_1 x87_4).f0.f1, (rd_T46 l0_1 x87_4).f0.f2, (rd_T46 l0_1 x87_4).f0.f3, (rd_T46 l0_1 x87_4).f0.f4, (rd_T46 l0_1 x87_4).f0.f5, (rd_T46 l0_1 x87_4).f0.f6, (rd_T46 l0_1 x87_4).f0.f7, (rd_T46 l0_1 x87_4).f0.f8⟩ : S23), rd x9_4 ((rd_T46 l0_1 x87_4).f1), rd x9_4 ((rd_T46 l0_1 x87_4).f2)⟩ : S46)]) := ⟨_, rfl⟩
                            replace H : (if (ji68) < (x9_4.length : Int) then (impl_TrimCircuit.l3 k4 (wrap64 (3 + a0_0)) x4_2 (x9_4.set ((ji68) : Int).toNat (wrap64 (wrap64 (2 + a0_0) + (y124.length : Int)))) l0_1 (l0_1.length : Int) (wrap64 (x87_4 + 1)) a0_0 l0_1 l0_2 a0_0 y124) else (none)) = some (r1, r2, r3) := by first | (rw [hy124]; with_reducible exact H) | (have H2_ := (Option.bind_some _ _).symm.trans H; rw [hy124]; with_reducible exact H2_) | (have H2_ := (Option.bind_some _ _).symm.trans H; with_reducible exact H2_) | with_reducible exact H | (rw [hy124]; exact H) | exact H
                            have Ny124 := am hy124; clear hy124
                            by_cases c78 : (ji68) < (x9_4.length : Int)
                            ·rw [if_pos c78] at H
                             have c78b0 : decide ((ji68) < (x9_4.length : Int)) = true := decide_eq_true c78
                             clear c78
                             obtain ⟨y127, hy127⟩ : ∃ y_ : List Int, y_ = (x9_4.set ((ji68) : Int).toNat (wrap64 (wrap64 (2 + a0_0) + (y124.length : Int)))) := ⟨_, rfl⟩
                             replace H : (impl_TrimCircuit.l3 k4 (wrap64 (3 + a0_0)) x4_2 y127 l0_1 (l0_1.length : Int) (wrap64 (x87_4 + 1)) a0_0 l0_1 l0_2 a0_0 y124) = some (r1, r2, r3) := by first | (rw [hy127]; with_reducible exact H) | (have H2_ := (Option.bind_some _ _).symm.trans H; rw [hy127]; with_reducible exact H2_) | (have H2_ := (Option.bind_some _ _).symm.trans H; with_reducible exact H2_) | with_reducible exact H | (rw [hy127]; exact H) | exact H
                             have Ny127 := am hy127; clear hy127
                             have H' := am H
                             clear H
                             have p119 : 0 ≤ (x87_4 : Int) := of_decide_eq_true (by first | with_reducible assumption | assumption)
                             have q119 : x87_4 < (l0_1.length : Int) := of_decide_eq_true (by first | with_reducible assumption | assumption)
                             obtain ⟨ad119, e119, hx119_0, hx119_1, hx119_2, hx119_3, hx119_4, hx119_5, hx119_6, hx119_7, hx119_8, hx119_9, hx119_10⟩ := at_T46 HR0_1.out x87_4 p119 q119
                             cases e119
                             replace hx119_0 := (HB.out.cell (World.block_lt_of_cell? w _ hx119_0)).trans hx119_0
                             replace hx119_1 := (HB.out.cell (World.block_lt_of_cell? w _ hx119_1)).trans hx119_1
                             replace hx119_2 := (HB.out.cell (World.block_lt_of_cell? w _ hx119_2)).trans hx119_2
                             replace hx119_3 := (HB.out.cell (World.block_lt_of_cell? w _ hx119_3)).trans hx119_3
                             replace hx119_4 := (HB.out.cell (World.block_lt_of_cell? w _ hx119_4)).trans hx119_4
                             replace hx119_5 := (HB.out.cell (World.block_lt_of_cell? w _ hx119_5)).trans hx119_5
                             replace hx119_6 := (HB.out.cell (World.block_lt_of_cell? w _ hx119_6)).trans hx119_6
                             replace hx119_7 := (HB.out.cell (World.block_lt_of_cell? w _ hx119_7)).trans hx119_7
                             replace hx119_8 := (HB.out.cell (World.block_lt_of_cell? w _ hx119_8)).trans hx119_8
                             replace hx119_9 := (HB.out.cell (World.block_lt_of_cell? w _ hx119_9)).trans hx119_9
                             replace hx119_10 := (HB.out.cell (World.block_lt_of_cell? w _ hx119_10)).trans hx119_10
                             replace p119 := eq_true p119
                             replace q119 := eq_true q119
                             try go_wp2_with (first | ((with_reducible refine gate_dst (N := 12) rfl ?_); refine box_event ?hg (N := 12) ?hd (cs := #[.int .i64 0, .int .i64 0, .int .i64 0, .int .i64 0, .int .i64 0, .int .i64 0, .int .i64 0, .int .i64 0, .int .i64 0, .int .i64 0, .int .i64 0]) (t := 46) ?hr ?_; (case hd => rfl); (case hg => rfl); (case hr => first | (go_simp; done) | (go_simp; rfl)); intro gb120 hg w80 hbox hb; have n0_ := am (Kd.R_below (bC HO_4.out) hb); have n1_ := am (Kd.R_below (bC HO_9.out) hb); have n2_ := am (Kd.R_below (Kd.R_elderB (bC HO_118001.out) gb120 (Nat.le_of_eq hg.symm)) hb); have n3_ := am (blk_below (bA BK101.out) hb); have n4_ := am (blk_below (bA BK102.out) hb); have n5_ := am (blk_below (bA BK117.out) hb); have n6_ := am (below_step (bB HB.out) hb); have n7_ := am (hbox); have n8_ := am ((by rw [hg]; exact (below_size (bB HB.out)) : w.heap.size ≤ gb120)); have n9_ := am ((by rw [hg]; exact (below_size (bB HB.out)) : w.heap.size ≤ gb120)); have n10_ := am ((by rw [hg]; exact Nat.ne_of_lt (blk_lt (g := gb101) (o := .cells #[.int .i64 a0_0, .slice (some ad119) l0_1.length c0_1, .slice A0_2 l0_2.length c0_2] 35 (0, 0)) (bA BK101.out)) : gb101 ≠ gb120)); have n11_ := am ((by rw [hg]; exact Nat.ne_of_gt (blk_lt (g := gb101) (o := .cells #[.int .i64 a0_0, .slice (some ad119) l0_1.length c0_1, .slice A0_2 l0_2.length c0_2] 35 (0, 0)) (bA BK101.out)) : gb120 ≠ gb101)); have n12_ := am ((by rw [hg]; exact Nat.ne_of_lt (blk_lt (g := gb102) (o := .cells #[.int .i64 0, .slice none 0 0, .slice none 0 0] 35 (0, 0)) (bA BK102.out)) : gb102 ≠ gb120)); have n13_ := am ((by rw [hg]; exact Nat.ne_of_gt (blk_lt (g := gb102) (o := .cells #[.int .i64 0, .slice none 0 0, .slice none 0 0] 35 (0, 0)) (bA BK102.out)) : gb120 ≠ gb102)); have n14_ := am ((by rw [hg]; exact Nat.ne_of_lt (blk_lt (g := gb117) (o := .cells #[.int .i64 a0_0, u118001, .slice none 0 0] 35 (0, 0)) (bA BK117.out)) : gb117 ≠ gb120)); have n15_ := am ((by rw [hg]; exact Nat.ne_of_gt (blk_lt (g := gb117) (o := .cells #[.int .i64 a0_0, u118001, .slice none 0 0] 35 (0, 0)) (bA BK117.out)) : gb120 ≠ gb117)); clear HO_4; clear HO_9; clear HO_118001; clear BK101; clear BK102; clear BK117; clear HB; have HO_4 := n0_; have HO_9 := n1_; have HO_118001 := n2_; have BK101 := n3_; have BK102 := n4_; have BK117 := n5_; have HB := n6_; have BK120 := n7_; have GW120 := n8_; have GE120 := n9_; have NB101_120 := n10_; have NB120_101 := n11_; have NB102_120 := n12_; have NB120_102 := n13_; have NB117_120 := n14_; have NB120_117 := n15_; clear n0_ n1_ n2_ n3_ n4_ n5_ n6_ n7_ n8_ n9_ n10_ n11_ n12_ n13_ n14_ n15_; clear hb hbox hg; have hnb81 := NB120_101.out; have hnc81 := NB101_120.out; have hnb82 := NB120_102.out; have hnc82 := NB102_120.out; have hnb83 := NB120_117.out; have hnc83 := NB117_120.out; have hcz84_0 : w80.cell? ⟨gb120, 0, none⟩ = some (.int .i64 0) := (blk_cell BK120.out 0).trans rfl; have hcz84_1 : w80.cell? ⟨gb120, 1, none⟩ = some (.int .i64 0) := (blk_cell BK120.out 1).trans rfl; have hcz84_2 : w80.cell? ⟨gb120, 2, none⟩ = some (.int .i64 0) := (blk_cell BK120.out 2).trans rfl; have hcz84_3 : w80.cell? ⟨gb120, 3, none⟩ = some (.int .i64 0) := (blk_cell BK120.out 3).trans rfl; have hcz84_4 : w80.cell? ⟨gb120, 4, none⟩ = some (.int .i64 0) := (blk_cell BK120.out 4).trans rfl; have hcz84_5 : w80.cell? ⟨gb120, 5, none⟩ = some (.int .i64 0) := (blk_cell BK120.out 5).trans rfl; have hcz84_6 : w80.cell? ⟨gb120, 6, none⟩ = some (.int .i64 0) := (blk_cell BK120.out 6).trans rfl; have hcz84_7 : w80.cell? ⟨gb120, 7, none⟩ = some (.int .i64 0) := (blk_cell BK120.out 7).trans rfl; have hcz84_8 : w80.cell? ⟨gb120, 8, none⟩ = some (.int .i64 0) := (blk_cell BK120.out 8).trans rfl; have hcz84_9 : w80.cell? ⟨gb120, 9, none⟩ = some (.int .i64 0) := (blk_cell BK120.out 9).trans rfl; have hcz84_10 : w80.cell? ⟨gb120, 10, none⟩ = some (.int .i64 0) := (blk_cell BK120.out 10).trans rfl; have hfz84_0 := blk_frozen BK120.out 0; have hfz84_1 := blk_frozen BK120.out 1; have hfz84_2 := blk_frozen BK120.out 2; have hfz84_3 := blk_frozen BK120.out 3; have hfz84_4 := blk_frozen BK120.out 4; have hfz84_5 := blk_frozen BK120.out 5; have hfz84_6 := blk_frozen BK120.out 6; have hfz84_7 := blk_frozen BK120.out 7; have hfz84_8 := blk_frozen BK120.out 8; have hfz84_9 := blk_frozen BK120.out 9; have hfz84_10 := blk_frozen BK120.out 10; have p121 : 0 ≤ ((ji68) : Int) := of_decide_eq_true (by first | with_reducible assumption | assumption); have q121 : (ji68) < (x4_2.length : Int) := of_decide_eq_true (by first | with_reducible assumption | assumption); obtain ⟨ad121, e121, hx121_0⟩ := Kd.at_bool (Kd.R_reads' HO_4.out).2.2 (ji68) p121 q121; (try rw [← Nbq71.out] at hx121_0); cases e121; have hn121_0 : ad121.block ≠ gb120 := Kd.own_blk (Kd.R_ne HO_4.out BK120.out (by decide)); have hn121_1 : ad121.block ≠ gb120 := Kd.own_blk (Kd.R_ne HO_4.out BK120.out (by decide)); have hn121_2 : ad121.block ≠ gb120 := Kd.own_blk (Kd.R_ne HO_4.out BK120.out (by decide)); have hn121_3 : ad121.block ≠ gb120 := Kd.own_blk (Kd.R_ne HO_4.out BK120.out (by decide)); have hn121_4 : ad121.block ≠ gb120 := Kd.own_blk (Kd.R_ne HO_4.out BK120.out (by decide)); have hn121_5 : ad121.block ≠ gb120 := Kd.own_blk (Kd.R_ne HO_4.out BK120.out (by decide)); have hn121_6 : ad121.block ≠ gb120 := Kd.own_blk (Kd.R_ne HO_4.out BK120.out (by decide)); have hn121_7 : ad121.block ≠ gb120 := Kd.own_blk (Kd.R_ne HO_4.out BK120.out (by decide)); have hn121_8 : ad121.block ≠ gb120 := Kd.own_blk (Kd.R_ne HO_4.out BK120.out (by decide)); have hn121_9 : ad121.block ≠ gb120 := Kd.own_blk (Kd.R_ne HO_4.out BK120.out (by decide)); have hn121_10 : ad121.block ≠ gb120 := Kd.own_blk (Kd.R_ne HO_4.out BK120.out (by decide)); replace hx121_0 := (cell_far (p := ⟨gb120, 0, none⟩) (by first | (rw [add_block]; exact hn121_0) | (show (Addr.add _ _).block ≠ _; rw [add_block]; exact hn121_0) | exact hn121_0) (.int .i64 ((rd_T46 l0_1 x87_4).f0.f0))).trans hx121_0; replace hx121_0 := (cell_far (p := ⟨gb120, 1, none⟩) (by first | (rw [add_block]; exact hn121_1) | (show (Addr.add _ _).block ≠ _; rw [add_block]; exact hn121_1) | exact hn121_1) (.int .i64 ((rd_T46 l0_1 x87_4).f0.f1))).trans hx121_0; replace hx121_0 := (cell_far (p := ⟨gb120, 2, none⟩) (by first | (rw [add_block]; exact hn121_2) | (show (Addr.add _ _).block ≠ _; rw [add_block]; exact hn121_2) | exact hn121_2) (.int .i64 ((rd_T46 l0_1 x87_4).f0.f2))).trans hx121_0; replace hx121_0 := (cell_far (p := ⟨gb120, 3, none⟩) (by first | (rw [add_block]; exact hn121_3) | (show (Addr.add _ _).block ≠ _; rw [add_block]; exact hn121_3) | exact hn121_3) (.int .i64 ((rd_T46 l0_1 x87_4).f0.f3))).trans hx121_0; replace hx121_0 := (cell_far (p := ⟨gb120, 4, none⟩) (by first | (rw [add_block]; exact hn121_4) | (show (Addr.add _ _).block ≠ _; rw [add_block]; exact hn121_4) | exact hn121_4) (.int .i64 ((rd_T46 l0_1 x87_4).f0.f4))).trans hx121_0; replace hx121_0 := (cell_far (p := ⟨gb120, 5, none⟩) (by first | (rw [add_block]; exact hn121_5) | (show (Addr.add _ _).block ≠ _; rw [add_block]; exact hn121_5) | exact hn121_5) (.int .i64 ((rd_T46 l0_1 x87_4).f0.f5))).trans hx121_0; replace hx121_0 := (cell_far (p := ⟨gb120, 6, none⟩) (by first | (rw [add_block]; exact hn121_6) | (show (Addr.add _ _).block ≠ _; rw [add_block]; exact hn121_6) | exact hn121_6) (.int .i64 ((rd_T46 l0_1 x87_4).f0.f6))).trans hx121_0; replace hx121_0 := (cell_far (p := ⟨gb120, 7, none⟩) (by first | (rw [add_block]; exact hn121_7) | (show (Addr.add _ _).block ≠ _; rw [add_block]; exact hn121_7) | exact hn121_7) (.int .i64 ((rd_T46 l0_1 x87_4).f0.f7))).trans hx121_0; replace hx121_0 := (cell_far (p := ⟨gb120, 8, none⟩) (by first | (rw [add_block]; exact hn121_8) | (show (Addr.add _ _).block ≠ _; rw [add_block]; exact hn121_8) | exact hn121_8) (.int .i64 ((rd_T46 l0_1 x87_4).f0.f8))).trans hx121_0; replace hx121_0 := (cell_far (p := ⟨gb120, 9, none⟩) (by first | (rw [add_block]; exact hn121_9) | (show (Addr.add _ _).block ≠ _; rw [add_block]; exact hn121_9) | exact hn121_9) (.int .i64 ((rd_T46 l0_1 x87_4).f1))).trans hx121_0; replace hx121_0 := (cell_far (p := ⟨gb120, 10, none⟩) (by first | (rw [add_block]; exact hn121_10) | (show (Addr.add _ _).block ≠ _; rw [add_block]; exact hn121_10) | exact hn121_10) (.int .i64 ((rd_T46 l0_1 x87_4).f2))).trans hx121_0; clear hn121_0; clear hn121_1; clear hn121_2; clear hn121_3; clear hn121_4; clear hn121_5; clear hn121_6; clear hn121_7; clear hn121_8; clear hn121_9; clear hn121_10; replace p121 := eq_true p121; replace q121 := eq_true q121))
                             have n0_ : Aside0 (Kd.R Kd.bool 4 (((((((((((w80.setCell ⟨gb120, 0, none⟩ (.int .i64 ((rd_T46 l0_1 x87_4).f0.f0))).setCell ⟨gb120, 1, none⟩ (.int .i64 ((rd_T46 l0_1 x87_4).f0.f1))).setCell ⟨gb120, 2, none⟩ (.int .i64 ((rd_T46 l0_1 x87_4).f0.f2))).setCell ⟨gb120, 3, none⟩ (.int .i64 ((rd_T46 l0_1 x87_4).f0.f3))).setCell ⟨gb120, 4, none⟩ (.int .i64 ((rd_T46 l0_1 x87_4).f0.f4))).setCell ⟨gb120, 5, none⟩ (.int .i64 ((rd_T46 l0_1 x87_4).f0.f5))).setCell ⟨gb120, 6, none⟩ (.int .i64 ((rd_T46 l0_1 x87_4).f0.f6))).setCell ⟨gb120, 7, none⟩ (.int .i64 ((rd_T46 l0_1 x87_4).f0.f7))).setCell ⟨gb120, 8, none⟩ (.int .i64 ((rd_T46 l0_1 x87_4).f0.f8))).setCell ⟨gb120, 9, none⟩ (.int .i64 ((rd_T46 l0_1 x87_4).f1))).setCell ⟨gb120, 10, none⟩ (.int .i64 ((rd_T46 l0_1 x87_4).f2))) w.heap.size (fun _ => True) (.slice (some ad121) x4_2.length co48) x4_2) := ⟨by (with_reducible repeat (first | apply Kd.R_alloc | apply Kd.R_drewN | apply Kd.R_drew)); exact Kd.R_mono (Kd.R_far (p := ⟨gb120, 10, none⟩) (Kd.R_far (p := ⟨gb120, 9, none⟩) (Kd.R_far (p := ⟨gb120, 8, none⟩) (Kd.R_far (p := ⟨gb120, 7, none⟩) (Kd.R_far (p := ⟨gb120, 6, none⟩) (Kd.R_far (p := ⟨gb120, 5, none⟩) (Kd.R_far (p := ⟨gb120, 4, none⟩) (Kd.R_far (p := ⟨gb120, 3, none⟩) (Kd.R_far (p := ⟨gb120, 2, none⟩) (Kd.R_far (p := ⟨gb120, 1, none⟩) (Kd.R_far (p := ⟨gb120, 0, none⟩) (Kd.R_types HO_4.out BK120.out (by decide)) (fun _ hk => hk.2) (.int .i64 ((rd_T46 l0_1 x87_4).f0.f0))) (fun _ hk => hk.2) (.int .i64 ((rd_T46 l0_1 x87_4).f0.f1))) (fun _ hk => hk.2) (.int .i64 ((rd_T46 l0_1 x87_4).f0.f2))) (fun _ hk => hk.2) (.int .i64 ((rd_T46 l0_1 x87_4).f0.f3))) (fun _ hk => hk.2) (.int .i64 ((rd_T46 l0_1 x87_4).f0.f4))) (fun _ hk => hk.2) (.int .i64 ((rd_T46 l0_1 x87_4).f0.f5))) (fun _ hk => hk.2) (.int .i64 ((rd_T46 l0_1 x87_4).f0.f6))) (fun _ hk => hk.2) (.int .i64 ((rd_T46 l0_1 x87_4).f0.f7))) (fun _ hk => hk.2) (.int .i64 ((rd_T46 l0_1 x87_4).f0.f8))) (fun _ hk => hk.2) (.int .i64 ((rd_T46 l0_1 x87_4).f1))) (fun _ hk => hk.2) (.int .i64 ((rd_T46 l0_1 x87_4).f2))) (fun _ hk => trivial)⟩
                             have n1_ : Aside0 (Kd.R (Kd.int .i64) 3 (((((((((((w80.setCell ⟨gb120, 0, none⟩ (.int .i64 ((rd_T46 l0_1 x87_4).f0.f0))).setCell ⟨gb120, 1, none⟩ (.int .i64 ((rd_T46 l0_1 x87_4).f0.f1))).setCell ⟨gb120, 2, none⟩ (.int .i64 ((rd_T46 l0_1 x87_4).f0.f2))).setCell ⟨gb120, 3, none⟩ (.int .i64 ((rd_T46 l0_1 x87_4).f0.f3))).setCell ⟨gb120, 4, none⟩ (.int .i64 ((rd_T46 l0_1 x87_4).f0.f4))).setCell ⟨gb120, 5, none⟩ (.int .i64 ((rd_T46 l0_1 x87_4).f0.f5))).setCell ⟨gb120, 6, none⟩ (.int .i64 ((rd_T46 l0_1 x87_4).f0.f6))).setCell ⟨gb120, 7, none⟩ (.int .i64 ((rd_T46 l0_1 x87_4).f0.f7))).setCell ⟨gb120, 8, none⟩ (.int .i64 ((rd_T46 l0_1 x87_4).f0.f8))).setCell ⟨gb120, 9, none⟩ (.int .i64 ((rd_T46 l0_1 x87_4).f1))).setCell ⟨gb120, 10, none⟩ (.int .i64 ((rd_T46 l0_1 x87_4).f2))) w.heap.size (fun _ => True) v115 x9_4) := ⟨by (with_reducible repeat (first | apply Kd.R_alloc | apply Kd.R_drewN | apply Kd.R_drew)); exact Kd.R_mono (Kd.R_far (p := ⟨gb120, 10, none⟩) (Kd.R_far (p := ⟨gb120, 9, none⟩) (Kd.R_far (p := ⟨gb120, 8, none⟩) (Kd.R_far (p := ⟨gb120, 7, none⟩) (Kd.R_far (p := ⟨gb120, 6, none⟩) (Kd.R_far (p := ⟨gb120, 5, none⟩) (Kd.R_far (p := ⟨gb120, 4, none⟩) (Kd.R_far (p := ⟨gb120, 3, none⟩) (Kd.R_far (p := ⟨gb120, 2, none⟩) (Kd.R_far (p := ⟨gb120, 1, none⟩) (Kd.R_far (p := ⟨gb120, 0, none⟩) (Kd.R_types HO_9.out BK120.out (by decide)) (fun _ hk => hk.2) (.int .i64 ((rd_T46 l0_1 x87_4).f0.f0))) (fun _ hk => hk.2) (.int .i64 ((rd_T46 l0_1 x87_4).f0.f1))) (fun _ hk => hk.2) (.int .i64 ((rd_T46 l0_1 x87_4).f0.f2))) (fun _ hk => hk.2) (.int .i64 ((rd_T46 l0_1 x87_4).f0.f3))) (fun _ hk => hk.2) (.int .i64 ((rd_T46 l0_1 x87_4).f0.f4))) (fun _ hk => hk.2) (.int .i64 ((rd_T46 l0_1 x87_4).f0.f5))) (fun _ hk => hk.2) (.int .i64 ((rd_T46 l0_1 x87_4).f0.f6))) (fun _ hk => hk.2) (.int .i64 ((rd_T46 l0_1 x87_4).f0.f7))) (fun _ hk => hk.2) (.int .i64 ((rd_T46 l0_1 x87_4).f0.f8))) (fun _ hk => hk.2) (.int .i64 ((rd_T46 l0_1 x87_4).f1))) (fun _ hk => hk.2) (.int .i64 ((rd_T46 l0_1 x87_4).f2))) (fun _ hk => trivial)⟩
                             have n2_ : Aside0 (Kd.R k46 46 (((((((((((w80.setCell ⟨gb120, 0, none⟩ (.int .i64 ((rd_T46 l0_1 x87_4).f0.f0))).setCell ⟨gb120, 1, none⟩ (.int .i64 ((rd_T46 l0_1 x87_4).f0.f1))).setCell ⟨gb120, 2, none⟩ (.int .i64 ((rd_T46 l0_1 x87_4).f0.f2))).setCell ⟨gb120, 3, none⟩ (.int .i64 ((rd_T46 l0_1 x87_4).f0.f3))).setCell ⟨gb120, 4, none⟩ (.int .i64 ((rd_T46 l0_1 x87_4).f0.f4))).setCell ⟨gb120, 5, none⟩ (.int .i64 ((rd_T46 l0_1 x87_4).f0.f5))).setCell ⟨gb120, 6, none⟩ (.int .i64 ((rd_T46 l0_1 x87_4).f0.f6))).setCell ⟨gb120, 7, none⟩ (.int .i64 ((rd_T46 l0_1 x87_4).f0.f7))).setCell ⟨gb120, 8, none⟩ (.int .i64 ((rd_T46 l0_1 x87_4).f0.f8))).setCell ⟨gb120, 9, none⟩ (.int .i64 ((rd_T46 l0_1 x87_4).f1))).setCell ⟨gb120, 10, none⟩ (.int .i64 ((rd_T46 l0_1 x87_4).f2))) w.heap.size (fun k_ => k_ ≠ gb120) u118001 x118001_4) := ⟨by (with_reducible repeat (first | apply Kd.R_alloc | apply Kd.R_drewN | apply Kd.R_drew)); exact Kd.R_mono (Kd.R_far (p := ⟨gb120, 10, none⟩) (Kd.R_far (p := ⟨gb120, 9, none⟩) (Kd.R_far (p := ⟨gb120, 8, none⟩) (Kd.R_far (p := ⟨gb120, 7, none⟩) (Kd.R_far (p := ⟨gb120, 6, none⟩) (Kd.R_far (p := ⟨gb120, 5, none⟩) (Kd.R_far (p := ⟨gb120, 4, none⟩) (Kd.R_far (p := ⟨gb120, 3, none⟩) (Kd.R_far (p := ⟨gb120, 2, none⟩) (Kd.R_far (p := ⟨gb120, 1, none⟩) (Kd.R_far (p := ⟨gb120, 0, none⟩) (Kd.R_mono HO_118001.out (fun k_ hk => (⟨hk, hk.2⟩ : _ ∧ k_ ≠ gb120))) (fun _ hk => hk.2) (.int .i64 ((rd_T46 l0_1 x87_4).f0.f0))) (fun _ hk => hk.2) (.int .i64 ((rd_T46 l0_1 x87_4).f0.f1))) (fun _ hk => hk.2) (.int .i64 ((rd_T46 l0_1 x87_4).f0.f2))) (fun _ hk => hk.2) (.int .i64 ((rd_T46 l0_1 x87_4).f0.f3))) (fun _ hk => hk.2) (.int .i64 ((rd_T46 l0_1 x87_4).f0.f4))) (fun _ hk => hk.2) (.int .i64 ((rd_T46 l0_1 x87_4).f0.f5))) (fun _ hk => hk.2) (.int .i64 ((rd_T46 l0_1 x87_4).f0.f6))) (fun _ hk => hk.2) (.int .i64 ((rd_T46 l0_1 x87_4).f0.f7))) (fun _ hk => hk.2) (.int .i64 ((rd_T46 l0_1 x87_4).f0.f8))) (fun _ hk => hk.2) (.int .i64 ((rd_T46 l0_1 x87_4).f1))) (fun _ hk => hk.2) (.int .i64 ((rd_T46 l0_1 x87_4).f2))) (fun _ hk => hk.1.2)⟩
                             have n3_ : Aside0 ((((((((((((w80.setCell ⟨gb120, 0, none⟩ (.int .i64 ((rd_T46 l0_1 x87_4).f0.f0))).setCell ⟨gb120, 1, none⟩ (.int .i64 ((rd_T46 l0_1 x87_4).f0.f1))).setCell ⟨gb120, 2, none⟩ (.int .i64 ((rd_T46 l0_1 x87_4).f0.f2))).setCell ⟨gb120, 3, none⟩ (.int .i64 ((rd_T46 l0_1 x87_4).f0.f3))).setCell ⟨gb120, 4, none⟩ (.int .i64 ((rd_T46 l0_1 x87_4).f0.f4))).setCell ⟨gb120, 5, none⟩ (.int .i64 ((rd_T46 l0_1 x87_4).f0.f5))).setCell ⟨gb120, 6, none⟩ (.int .i64 ((rd_T46 l0_1 x87_4).f0.f6))).setCell ⟨gb120, 7, none⟩ (.int .i64 ((rd_T46 l0_1 x87_4).f0.f7))).setCell ⟨gb120, 8, none⟩ (.int .i64 ((rd_T46 l0_1 x87_4).f0.f8))).setCell ⟨gb120, 9, none⟩ (.int .i64 ((rd_T46 l0_1 x87_4).f1))).setCell ⟨gb120, 10, none⟩ (.int .i64 ((rd_T46 l0_1 x87_4).f2))).heap[gb101]? = some (.cells #[.int .i64 a0_0, .slice (some ad119) l0_1.length c0_1, .slice A0_2 l0_2.length c0_2] 35 (0, 0))) := ⟨by (with_reducible repeat (first | refine blk_drewN ?_ _ | refine blk_drew ?_ | refine blk_alloc ?_ _)); refine blk_far ?_ NB101_120.out _; (with_reducible repeat (first | refine blk_drewN ?_ _ | refine blk_drew ?_ | refine blk_alloc ?_ _)); refine blk_far ?_ NB101_120.out _; (with_reducible repeat (first | refine blk_drewN ?_ _ | refine blk_drew ?_ | refine blk_alloc ?_ _)); refine blk_far ?_ NB101_120.out _; (with_reducible repeat (first | refine blk_drewN ?_ _ | refine blk_drew ?_ | refine blk_alloc ?_ _)); refine blk_far ?_ NB101_120.out _; (with_reducible repeat (first | refine blk_drewN ?_ _ | refine blk_drew ?_ | refine blk_alloc ?_ _)); refine blk_far ?_ NB101_120.out _; (with_reducible repeat (first | refine blk_drewN ?_ _ | refine blk_drew ?_ | refine blk_alloc ?_ _)); refine blk_far ?_ NB101_120.out _; (with_reducible repeat (first | refine blk_drewN ?_ _ | refine blk_drew ?_ | refine blk_alloc ?_ _)); refine blk_far ?_ NB101_120.out _; (with_reducible repeat (first | refine blk_drewN ?_ _ | refine blk_drew ?_ | refine blk_alloc ?_ _)); refine blk_far ?_ NB101_120.out _; (with_reducible repeat (first | refine blk_drewN ?_ _ | refine blk_drew ?_ | refine blk_alloc ?_ _)); refine blk_far ?_ NB101_120.out _; (with_reducible repeat (first | refine blk_drewN ?_ _ | refine blk_drew ?_ | refine blk_alloc ?_ _)); refine blk_far ?_ NB101_120.out _; (with_reducible repeat (first | refine blk_drewN ?_ _ | refine blk_drew ?_ | refine blk_alloc ?_ _)); refine blk_far ?_ NB101_120.out _; (with_reducible repeat (first | refine blk_drewN ?_ _ | refine blk_drew ?_ | refine blk_alloc ?_ _)); exact BK101.out⟩
                             have n4_ : Aside0 ((((((((((((w80.setCell ⟨gb120, 0, none⟩ (.int .i64 ((rd_T46 l0_1 x87_4).f0.f0))).setCell ⟨gb120, 1, none⟩ (.int .i64 ((rd_T46 l0_1 x87_4).f0.f1))).setCell ⟨gb120, 2, none⟩ (.int .i64 ((rd_T46 l0_1 x87_4).f0.f2))).setCell ⟨gb120, 3, none⟩ (.int .i64 ((rd_T46 l0_1 x87_4).f0.f3))).setCell ⟨gb120, 4, none⟩ (.int .i64 ((rd_T46 l0_1 x87_4).f0.f4))).setCell ⟨gb120, 5, none⟩ (.int .i64 ((rd_T46 l0_1 x87_4).f0.f5))).setCell ⟨gb120, 6, none⟩ (.int .i64 ((rd_T46 l0_1 x87_4).f0.f6))).setCell ⟨gb120, 7, none⟩ (.int .i64 ((rd_T46 l0_1 x87_4).f0.f7))).setCell ⟨gb120, 8, none⟩ (.int .i64 ((rd_T46 l0_1 x87_4).f0.f8))).setCell ⟨gb120, 9, none⟩ (.int .i64 ((rd_T46 l0_1 x87_4).f1))).setCell ⟨gb120, 10, none⟩ (.int .i64 ((rd_T46 l0_1 x87_4).f2))).heap[gb102]? = some (.cells #[.int .i64 0, .slice none 0 0, .slice none 0 0] 35 (0, 0))) := ⟨by (with_reducible repeat (first | refine blk_drewN ?_ _ | refine blk_drew ?_ | refine blk_alloc ?_ _)); refine blk_far ?_ NB102_120.out _; (with_reducible repeat (first | refine blk_drewN ?_ _ | refine blk_drew ?_ | refine blk_alloc ?_ _)); refine blk_far ?_ NB102_120.out _; (with_reducible repeat (first | refine blk_drewN ?_ _ | refine blk_drew ?_ | refine blk_alloc ?_ _)); refine blk_far ?_ NB102_120.out _; (with_reducible repeat (first | refine blk_drewN ?_ _ | refine blk_drew ?_ | refine blk_alloc ?_ _)); refine blk_far ?_ NB102_120.out _; (with_reducible repeat (first | refine blk_drewN ?_ _ | refine blk_drew ?_ | refine blk_alloc ?_ _)); refine blk_far ?_ NB102_120.out _; (with_reducible repeat (first | refine blk_drewN ?_ _ | refine blk_drew ?_ | refine blk_alloc ?_ _)); refine blk_far ?_ NB102_120.out _; (with_reducible repeat (first | refine blk_drewN ?_ _ | refine blk_drew ?_ | refine blk_alloc ?_ _)); refine blk_far ?_ NB102_120.out _; (with_reducible repeat (first | refine blk_drewN ?_ _ | refine blk_drew ?_ | refine blk_alloc ?_ _)); refine blk_far ?_ NB102_120.out _; (with_reducible repeat (first | refine blk_drewN ?_ _ | refine blk_drew ?_ | refine blk_alloc ?_ _)); refine blk_far ?_ NB102_120.out _; (with_reducible repeat (first | refine blk_drewN ?_ _ | refine blk_drew ?_ | refine blk_alloc ?_ _)); refine blk_far ?_ NB102_120.out _; (with_reducible repeat (first | refine blk_drewN ?_ _ | refine blk_drew ?_ | refine blk_alloc ?_ _)); refine blk_far ?_ NB102_120.out _; (with_reducible repeat (first | refine blk_drewN ?_ _ | refine blk_drew ?_ | refine blk_alloc ?_ _)); exact BK102.out⟩
                             have n5_ : Aside0 ((((((((((((w80.setCell ⟨gb120, 0, none⟩ (.int .i64 ((rd_T46 l0_1 x87_4).f0.f0))).setCell ⟨gb120, 1, none⟩ (.int .i64 ((rd_T46 l0_1 x87_4).f0.f1))).setCell ⟨gb120, 2, none⟩ (.int .i64 ((rd_T46 l0_1 x87_4).f0.f2))).setCell ⟨gb120, 3, none⟩ (.int .i64 ((rd_T46 l0_1 x87_4).f0.f3))).setCell ⟨gb120, 4, none⟩ (.int .i64 ((rd_T46 l0_1 x87_4).f0.f4))).setCell ⟨gb120, 5, none⟩ (.int .i64 ((rd_T46 l0_1 x87_4).f0.f5))).setCell ⟨gb120, 6, none⟩ (.int .i64 ((rd_T46 l0_1 x87_4).f0.f6))).setCell ⟨gb120, 7, none⟩ (.int .i64 ((rd_T46 l0_1 x87_4).f0.f7))).setCell ⟨gb120, 8, none⟩ (.int .i64 ((rd_T46 l0_1 x87_4).f0.f8))).setCell ⟨gb120, 9, none⟩ (.int .i64 ((rd_T46 l0_1 x87_4).f1))).setCell ⟨gb120, 10, none⟩ (.int .i64 ((rd_T46 l0_1 x87_4).f2))).heap[gb117]? = some (.cells #[.int .i64 a0_0, u118001, .slice none 0 0] 35 (0, 0))) := ⟨by (with_reducible repeat (first | refine blk_drewN ?_ _ | refine blk_drew ?_ | refine blk_alloc ?_ _)); refine blk_far ?_ NB117_120.out _; (with_reducible repeat (first | refine blk_drewN ?_ _ | refine blk_drew ?_ | refine blk_alloc ?_ _)); refine blk_far ?_ NB117_120.out _; (with_reducible repeat (first | refine blk_drewN ?_ _ | refine blk_drew ?_ | refine blk_alloc ?_ _)); refine blk_far ?_ NB117_120.out _; (with_reducible repeat (first | refine blk_drewN ?_ _ | refine blk_drew ?_ | refine blk_alloc ?_ _)); refine blk_far ?_ NB117_120.out _; (with_reducible repeat (first | refine blk_drewN ?_ _ | refine blk_drew ?_ | refine blk_alloc ?_ _)); refine blk_far ?_ NB117_120.out _; (with_reducible repeat (first | refine blk_drewN ?_ _ | refine blk_drew ?_ | refine blk_alloc ?_ _)); refine blk_far ?_ NB117_120.out _; (with_reducible repeat (first | refine blk_drewN ?_ _ | refine blk_drew ?_ | refine blk_alloc ?_ _)); refine blk_far ?_ NB117_120.out _; (with_reducible repeat (first | refine blk_drewN ?_ _ | refine blk_drew ?_ | refine blk_alloc ?_ _)); refine blk_far ?_ NB117_120.out _; (with_reducible repeat (first | refine blk_drewN ?_ _ | refine blk_drew ?_ | refine blk_alloc ?_ _)); refine blk_far ?_ NB117_120.out _; (with_reducible repeat (first | refine blk_drewN ?_ _ | refine blk_drew ?_ | refine blk_alloc ?_ _)); refine blk_far ?_ NB117_120.out _; (with_reducible repeat (first | refine blk_drewN ?_ _ | refine blk_drew ?_ | refine blk_alloc ?_ _)); refine blk_far ?_ NB117_120.out _; (with_reducible repeat (first | refine blk_drewN ?_ _ | refine blk_drew ?_ | refine blk_alloc ?_ _)); exact BK117.out⟩
                             have n6_ : Aside0 ((((((((((((w80.setCell ⟨gb120, 0, none⟩ (.int .i64 ((rd_T46 l0_1 x87_4).f0.f0))).setCell ⟨gb120, 1, none⟩ (.int .i64 ((rd_T46 l0_1 x87_4).f0.f1))).setCell ⟨gb120, 2, none⟩ (.int .i64 ((rd_T46 l0_1 x87_4).f0.f2))).setCell ⟨gb120, 3, none⟩ (.int .i64 ((rd_T46 l0_1 x87_4).f0.f3))).setCell ⟨gb120, 4, none⟩ (.int .i64 ((rd_T46 l0_1 x87_4).f0.f4))).setCell ⟨gb120, 5, none⟩ (.int .i64 ((rd_T46 l0_1 x87_4).f0.f5))).setCell ⟨gb120, 6, none⟩ (.int .i64 ((rd_T46 l0_1 x87_4).f0.f6))).setCell ⟨gb120, 7, none⟩ (.int .i64 ((rd_T46 l0_1 x87_4).f0.f7))).setCell ⟨gb120, 8, none⟩ (.int .i64 ((rd_T46 l0_1 x87_4).f0.f8))).setCell ⟨gb120, 9, none⟩ (.int .i64 ((rd_T46 l0_1 x87_4).f1))).setCell ⟨gb120, 10, none⟩ (.int .i64 ((rd_T46 l0_1 x87_4).f2))).heap[gb120]? = some (.cells #[.int .i64 ((rd_T46 l0_1 x87_4).f0.f0), .int .i64 ((rd_T46 l0_1 x87_4).f0.f1), .int .i64 ((rd_T46 l0_1 x87_4).f0.f2), .int .i64 ((rd_T46 l0_1 x87_4).f0.f3), .int .i64 ((rd_T46 l0_1 x87_4).f0.f4), .int .i64 ((rd_T46 l0_1 x87_4).f0.f5), .int .i64 ((rd_T46 l0_1 x87_4).f0.f6), .int .i64 ((rd_T46 l0_1 x87_4).f0.f7), .int .i64 ((rd_T46 l0_1 x87_4).f0.f8), .int .i64 ((rd_T46 l0_1 x87_4).f1), .int .i64 ((rd_T46 l0_1 x87_4).f2)] 46 (0, 0))) := ⟨by (with_reducible repeat (first | refine blk_drewN ?_ _ | refine blk_drew ?_ | refine blk_alloc ?_ _)); refine blk_put (cs := #[.int .i64 ((rd_T46 l0_1 x87_4).f0.f0), .int .i64 ((rd_T46 l0_1 x87_4).f0.f1), .int .i64 ((rd_T46 l0_1 x87_4).f0.f2), .int .i64 ((rd_T46 l0_1 x87_4).f0.f3), .int .i64 ((rd_T46 l0_1 x87_4).f0.f4), .int .i64 ((rd_T46 l0_1 x87_4).f0.f5), .int .i64 ((rd_T46 l0_1 x87_4).f0.f6), .int .i64 ((rd_T46 l0_1 x87_4).f0.f7), .int .i64 ((rd_T46 l0_1 x87_4).f0.f8), .int .i64 ((rd_T46 l0_1 x87_4).f1), .int .i64 0]) ?_ 10 _ rfl; (with_reducible repeat (first | refine blk_drewN ?_ _ | refine blk_drew ?_ | refine blk_alloc ?_ _)); refine blk_put (cs := #[.int .i64 ((rd_T46 l0_1 x87_4).f0.f0), .int .i64 ((rd_T46 l0_1 x87_4).f0.f1), .int .i64 ((rd_T46 l0_1 x87_4).f0.f2), .int .i64 ((rd_T46 l0_1 x87_4).f0.f3), .int .i64 ((rd_T46 l0_1 x87_4).f0.f4), .int .i64 ((rd_T46 l0_1 x87_4).f0.f5), .int .i64 ((rd_T46 l0_1 x87_4).f0.f6), .int .i64 ((rd_T46 l0_1 x87_4).f0.f7), .int .i64 ((rd_T46 l0_1 x87_4).f0.f8), .int .i64 0, .int .i64 0]) ?_ 9 _ rfl; (with_reducible repeat (first | refine blk_drewN ?_ _ | refine blk_drew ?_ | refine blk_alloc ?_ _)); refine blk_put (cs := #[.int .i64 ((rd_T46 l0_1 x87_4).f0.f0), .int .i64 ((rd_T46 l0_1 x87_4).f0.f1), .int .i64 ((rd_T46 l0_1 x87_4).f0.f2), .int .i64 ((rd_T46 l0_1 x87_4).f0.f3), .int .i64 ((rd_T46 l0_1 x87_4).f0.f4), .int .i64 ((rd_T46 l0_1 x87_4).f0.f5), .int .i64 ((rd_T46 l0_1 x87_4).f0.f6), .int .i64 ((rd_T46 l0_1 x87_4).f0.f7), .int .i64 0, .int .i64 0, .int .i64 0]) ?_ 8 _ rfl; (with_reducible repeat (first | refine blk_drewN ?_ _ | refine blk_drew ?_ | refine blk_alloc ?_ _)); refine blk_put (cs := #[.int .i64 ((rd_T46 l0_1 x87_4).f0.f0), .int .i64 ((rd_T46 l0_1 x87_4).f0.f1), .int .i64 ((rd_T46 l0_1 x87_4).f0.f2), .int .i64 ((rd_T46 l0_1 x87_4).f0.f3), .int .i64 ((rd_T46 l0_1 x87_4).f0.f4), .int .i64 ((rd_T46 l0_1 x87_4).f0.f5), .int .i64 ((rd_T46 l0_1 x87_4).f0.f6), .int .i64 0, .int .i64 0, .int .i64 0, .int .i64 0]) ?_ 7 _ rfl; (with_reducible repeat (first | refine blk_drewN ?_ _ | refine blk_drew ?_ | refine blk_alloc ?_ _)); refine blk_put (cs := #[.int .i64 ((rd_T46 l0_1 x87_4).f0.f0), .int .i64 ((rd_T46 l0_1 x87_4).f0.f1), .int .i64 ((rd_T46 l0_1 x87_4).f0.f2), .int .i64 ((rd_T46 l0_1 x87_4).f0.f3), .int .i64 ((rd_T46 l0_1 x87_4).f0.f4), .int .i64 ((rd_T46 l0_1 x87_4).f0.f5), .int .i64 0, .int .i64 0, .int .i64 0, .int .i64 0, .int .i64 0]) ?_ 6 _ rfl; (with_reducible repeat (first | refine blk_drewN ?_ _ | refine blk_drew ?_ | refine blk_alloc ?_ _)); refine blk_put (cs := #[.int .i64 ((rd_T46 l0_1 x87_4).f0.f0), .int .i64 ((rd_T46 l0_1 x87_4).f0.f1), .int .i64 ((rd_T46 l0_1 x87_4).f0.f2), .int .i64 ((rd_T46 l0_1 x87_4).f0.f3), .int .i64 ((rd_T46 l0_1 x87_4).f0.f4), .int .i64 0, .int .i64 0, .int .i64 0, .int .i64 0, .int .i64 0, .int .i64 0]) ?_ 5 _ rfl; (with_reducible repeat (first | refine blk_drewN ?_ _ | refine blk_drew ?_ | refine blk_alloc ?_ _)); refine blk_put (cs := #[.int .i64 ((rd_T46 l0_1 x87_4).f0.f0), .int .i64 ((rd_T46 l0_1 x87_4).f0.f1), .int .i64 ((rd_T46 l0_1 x87_4).f0.f2), .int .i64 ((rd_T46 l0_1 x87_4).f0.f3), .int .i64 0, .int .i64 0, .int .i64 0, .int .i64 0, .int .i64 0, .int .i64 0, .int .i64 0]) ?_ 4 _ rfl; (with_reducible repeat (first | refine blk_drewN ?_ _ | refine blk_drew ?_ | refine blk_alloc ?_ _)); refine blk_put (cs := #[.int .i64 ((rd_T46 l0_1 x87_4).f0.f0), .int .i64 ((rd_T46 l0_1 x87_4).f0.f1), .int .i64 ((rd_T46 l0_1 x87_4).f0.f2), .int .i64 0, .int .i64 0, .int .i64 0, .int .i64 0, .int .i64 0, .int .i64 0, .int .i64 0, .int .i64 0]) ?_ 3 _ rfl; (with_reducible repeat (first | refine blk_drewN ?_ _ | refine blk_drew ?_ | refine blk_alloc ?_ _)); refine blk_put (cs := #[.int .i64 ((rd_T46 l0_1 x87_4).f0.f0), .int .i64 ((rd_T46 l0_1 x87_4).f0.f1), .int .i64 0, .int .i64 0, .int .i64 0, .int .i64 0, .int .i64 0, .int .i64 0, .int .i64 0, .int .i64 0, .int .i64 0]) ?_ 2 _ rfl; (with_reducible repeat (first | refine blk_drewN ?_ _ | refine blk_drew ?_ | refine blk_alloc ?_ _)); refine blk_put (cs := #[.int .i64 ((rd_T46 l0_1 x87_4).f0.f0), .int .i64 0, .int .i64 0, .int .i64 0, .int .i64 0, .int .i64 0, .int .i64 0, .int .i64 0, .int .i64 0, .int .i64 0, .int .i64 0]) ?_ 1 _ rfl; (with_reducible repeat (first | refine blk_drewN ?_ _ | refine blk_drew ?_ | refine blk_alloc ?_ _)); refine blk_put (cs := #[.int .i64 0, .int .i64 0, .int .i64 0, .int .i64 0, .int .i64 0, .int .i64 0, .int .i64 0, .int .i64 0, .int .i64 0, .int .i64 0, .int .i64 0]) ?_ 0 _ rfl; (with_reducible repeat (first | refine blk_drewN ?_ _ | refine blk_drew ?_ | refine blk_alloc ?_ _)); exact BK120.out⟩
                             have n7_ : Aside0 (Below w.heap.size w (((((((((((w80.setCell ⟨gb120, 0, none⟩ (.int .i64 ((rd_T46 l0_1 x87_4).f0.f0))).setCell ⟨gb120, 1, none⟩ (.int .i64 ((rd_T46 l0_1 x87_4).f0.f1))).setCell ⟨gb120, 2, none⟩ (.int .i64 ((rd_T46 l0_1 x87_4).f0.f2))).setCell ⟨gb120, 3, none⟩ (.int .i64 ((rd_T46 l0_1 x87_4).f0.f3))).setCell ⟨gb120, 4, none⟩ (.int .i64 ((rd_T46 l0_1 x87_4).f0.f4))).setCell ⟨gb120, 5, none⟩ (.int .i64 ((rd_T46 l0_1 x87_4).f0.f5))).setCell ⟨gb120, 6, none⟩ (.int .i64 ((rd_T46 l0_1 x87_4).f0.f6))).setCell ⟨gb120, 7, none⟩ (.int .i64 ((rd_T46 l0_1 x87_4).f0.f7))).setCell ⟨gb120, 8, none⟩ (.int .i64 ((rd_T46 l0_1 x87_4).f0.f8))).setCell ⟨gb120, 9, none⟩ (.int .i64 ((rd_T46 l0_1 x87_4).f1))).setCell ⟨gb120, 10, none⟩ (.int .i64 ((rd_T46 l0_1 x87_4).f2)))) := ⟨bB HB.out⟩
                             (try clear HO_4); (try clear HO_9); (try clear HO_118001); (try clear BK101); (try clear BK102); (try clear BK117); (try clear BK120); (try clear HB)
                             generalize (((((((((((w80.setCell ⟨gb120, 0, none⟩ (.int .i64 ((rd_T46 l0_1 x87_4).f0.f0))).setCell ⟨gb120, 1, none⟩ (.int .i64 ((rd_T46 l0_1 x87_4).f0.f1))).setCell ⟨gb120, 2, none⟩ (.int .i64 ((rd_T46 l0_1 x87_4).f0.f2))).setCell ⟨gb120, 3, none⟩ (.int .i64 ((rd_T46 l0_1 x87_4).f0.f3))).setCell ⟨gb120, 4, none⟩ (.int .i64 ((rd_T46 l0_1 x87_4).f0.f4))).setCell ⟨gb120, 5, none⟩ (.int .i64 ((rd_T46 l0_1 x87_4).f0.f5))).setCell ⟨gb120, 6, none⟩ (.int .i64 ((rd_T46 l0_1 x87_4).f0.f6))).setCell ⟨gb120, 7, none⟩ (.int .i64 ((rd_T46 l0_1 x87_4).f0.f7))).setCell ⟨gb120, 8, none⟩ (.int .i64 ((rd_T46 l0_1 x87_4).f0.f8))).setCell ⟨gb120, 9, none⟩ (.int .i64 ((rd_T46 l0_1 x87_4).f1))).setCell ⟨gb120, 10, none⟩ (.int .i64 ((rd_T46 l0_1 x87_4).f2))) = w85 at n0_ n1_ n2_ n3_ n4_ n5_ n6_ n7_ ⊢
                             have HO_4 := n0_; have HO_9 := n1_; have HO_118001 := n2_; have BK101 := n3_; have BK102 := n4_; have BK117 := n5_; have BK120 := n6_; have HB := n7_; clear n0_ n1_ n2_ n3_ n4_ n5_ n6_ n7_; have n0_ := am (Kd.R_drew HO_4.out); have n1_ := am (Kd.R_drew HO_9.out); have n2_ := am (Kd.R_drew HO_118001.out); have n3_ := am (blk_drew BK101.out); have n4_ := am (blk_drew BK102.out); have n5_ := am (blk_drew BK117.out); have n6_ := am (blk_drew BK120.out); have n7_ := am (below_drew1 HB.out); clear HO_4; clear HO_9; clear HO_118001; clear BK101; clear BK102; clear BK117; clear BK120; clear HB; have HO_4 := n0_; have HO_9 := n1_; have HO_118001 := n2_; have BK101 := n3_; have BK102 := n4_; have BK117 := n5_; have BK120 := n6_; have HB := n7_; clear n0_ n1_ n2_ n3_ n4_ n5_ n6_ n7_
                             obtain ⟨Ao87, co87, eo87⟩ := Kd.R_slice HO_9.out
                             (first | subst eo87 | (injection eo87 with f1_ f2_ f3_; have f4_ := f1_.symm; have f5_ := f3_.symm; clear f1_ f2_ f3_; subst f4_; subst f5_))
                             have p122 : 0 ≤ (((rd_T46 l0_1 x87_4).f1) : Int) := of_decide_eq_true (by first | with_reducible assumption | assumption)
                             have q122 : ((rd_T46 l0_1 x87_4).f1) < (x9_4.length : Int) := of_decide_eq_true (by first | with_reducible assumption | assumption)
                             obtain ⟨ad122, e122, hx122_0⟩ := Kd.at_int (Kd.R_reads' HO_9.out).2.2 ((rd_T46 l0_1 x87_4).f1) p122 q122
                             cases e122
                             replace p122 := eq_true p122
                             replace q122 := eq_true q122
                             have p123 : 0 ≤ (((rd_T46 l0_1 x87_4).f2) : Int) := of_decide_eq_true (by first | with_reducible assumption | assumption)
                             have q123 : ((rd_T46 l0_1 x87_4).f2) < (x9_4.length : Int) := of_decide_eq_true (by first | with_reducible assumption | assumption)
                             obtain ⟨ad123, e123, hx123_0⟩ := Kd.at_int (Kd.R_reads' HO_9.out).2.2 ((rd_T46 l0_1 x87_4).f2) p123 q123
                             obtain rfl : ad122 = ad123 := (by injection e123)
                             replace p123 := eq_true p123
                             replace q123 := eq_true q123
                             refine start_ (n := 19) (S := fun w' => w'.cell? ⟨gb120, 0, none⟩ = some (.int .i64 ((rd_T46 l0_1 x87_4).f0.f0)) ∧ w'.cell? ⟨gb120, 1, none⟩ = some (.int .i64 ((rd_T46 l0_1 x87_4).f0.f1)) ∧ w'.cell? ⟨gb120, 2, none⟩ = some (.int .i64 ((rd_T46 l0_1 x87_4).f0.f2)) ∧ w'.cell? ⟨gb120, 3, none⟩ = some (.int .i64 ((rd_T46 l0_1 x87_4).f0.f3)) ∧ w'.cell? ⟨gb120, 4, none⟩ = some (.int .i64 ((rd_T46 l0_1 x87_4).f0.f4)) ∧ w'.cell? ⟨gb120, 5, none⟩ = some (.int .i64 ((rd_T46 l0_1 x87_4).f0.f5)) ∧ w'.cell? ⟨gb120, 6, none⟩ = some (.int .i64 ((rd_T46 l0_1 x87_4).f0.f6)) ∧ w'.cell? ⟨gb120, 7, none⟩ = some (.int .i64 ((rd_T46 l0_1 x87_4).f0.f7)) ∧ w'.cell? ⟨gb120, 8, none⟩ = some (.int .i64 ((rd_T46 l0_1 x87_4).f0.f8)) ∧ w'.cell? ⟨gb120, 9, none⟩ = some (.int .i64 ((rd_T46 l0_1 x87_4).f1)) ∧ w'.cell? ⟨gb120, 10, none⟩ = some (.int .i64 ((rd_T46 l0_1 x87_4).f2)) ∧ w'.cell? (ad122.add (((rd_T46 l0_1 x87_4).f1)).toNat) = some (.int .i64 (rd x9_4 ((rd_T46 l0_1 x87_4).f1))) ∧ w'.cell? (ad122.add (((rd_T46 l0_1 x87_4).f2)).toNat) = some (.int .i64 (rd x9_4 ((rd_T46 l0_1 x87_4).f2)))) (ds := [16, 18]) q38_31 (by kernel_rfl) rfl rfl ⟨(blk_cell BK120.out 0).trans rfl, (blk_cell BK120.out 1).trans rfl, (blk_cell BK120.out 2).trans rfl, (blk_cell BK120.out 3).trans rfl, (blk_cell BK120.out 4).trans rfl, (blk_cell BK120.out 5).trans rfl, (blk_cell BK120.out 6).trans rfl, (blk_cell BK120.out 7).trans rfl, (blk_cell BK120.out 8).trans rfl, (blk_cell BK120.out 9).trans rfl, (blk_cell BK120.out 10).trans rfl, hx122_0, hx123_0⟩ (fun hHeld => ?_); refine with_tabW impl_TrimCircuit.tab25 impl_TrimCircuit.bits25 (fun HT_ HW_ => ?_)
                             generalize w85.drew = w86 at HO_4 HO_9 HO_118001 BK101 BK102 BK117 BK120 HB hx122_0 hx123_0 hHeld ⊢
                             refine pure_ (i := 0) (N := some 98) (v := ?_) (a' := ?_) q38_32 rfl rfl (any_of HT_.out (by kernel_rfl)) (fun _ _ _ h => h) (Or.inl ⟨by rfl, ?_⟩) ?_ ?_; rotate_left
                             ·intro w'
                              go_simp; with_reducible rfl
                             rotate_left
                             ·simp only [Act.put, qa38, qb38, qc38, i64_w, i32_w]
                              rfl
                             refine pure_ (i := 1) (N := some 99) (v := ?_) (a' := ?_) q38_33 rfl rfl (any_of HT_.out (by kernel_rfl)) (fun _ _ _ h => h) (Or.inl ⟨by rfl, ?_⟩) ?_ ?_; rotate_left
                             ·intro w'
                              go_simp; with_reducible rfl
                             rotate_left
                             ·simp only [Act.put, qa38, qb38, qc38, i64_w, i32_w]
                              rfl
                             refine pure_ (i := 2) (N := some 100) (v := ?_) (a' := ?_) q38_34 rfl rfl (any_of HT_.out (by kernel_rfl)) (fun _ _ _ h => h) (Or.inl ⟨by rfl, ?_⟩) ?_ ?_; rotate_left
                             ·intro w'
                              go_simp; with_reducible rfl
                             rotate_left
                             ·simp only [Act.put, qa38, qb38, qc38, i64_w, i32_w]
                              rfl
                             refine pure_ (i := 3) (N := some 101) (v := ?_) (a' := ?_) q38_35 rfl rfl (any_of HT_.out (by kernel_rfl)) (fun _ _ _ h => h) (Or.inl ⟨by rfl, ?_⟩) ?_ ?_; rotate_left
                             ·intro w'
                              go_simp; with_reducible rfl
                             rotate_left
                             ·simp only [Act.put, qa38, qb38, qc38, i64_w, i32_w]
                              rfl
                             refine pure_ (i := 4) (N := some 102) (v := ?_) (a' := ?_) q38_36 rfl rfl (any_of HT_.out (by kernel_rfl)) (fun _ _ _ h => h) (Or.inl ⟨by rfl, ?_⟩) ?_ ?_; rotate_left
                             ·intro w'
                              go_simp; with_reducible rfl
                             rotate_left
                             ·simp only [Act.put, qa38, qb38, qc38, i64_w, i32_w]
                              rfl
                             refine pure_ (i := 6) (N := some 104) (v := ?_) (a' := ?_) q38_37 rfl rfl (any_of HT_.out (by kernel_rfl)) (fun _ _ _ h => h) (Or.inl ⟨by rfl, ?_⟩) ?_ ?_; rotate_left
                             ·intro w'
                              go_simp; with_reducible rfl
                             rotate_left
                             ·simp only [Act.put, qa38, qb38, qc38, i64_w, i32_w]
                              rfl
                             refine pure_ (i := 7) (N := some 105) (v := ?_) (a' := ?_) q38_38 rfl rfl (any_of HT_.out (by kernel_rfl)) (fun _ _ _ h => h) (Or.inl ⟨by rfl, ?_⟩) ?_ ?_; rotate_left
                             ·intro w'
                              go_simp; with_reducible rfl
                             rotate_left
                             ·simp only [Act.put, qa38, qb38, qc38, i64_w, i32_w]
                              rfl
                             refine pure_ (i := 11) (N := some 109) (v := ?_) (a' := ?_) q38_39 rfl rfl (any_of HT_.out (by kernel_rfl)) (fun _ _ _ h => h) (Or.inl ⟨by rfl, ?_⟩) ?_ ?_; rotate_left
                             ·intro w'
                              go_simp; with_reducible rfl
                             rotate_left
                             ·simp only [Act.put, qa38, qb38, qc38, i64_w, i32_w]
                              rfl
                             refine pure_ (i := 12) (N := some 110) (v := ?_) (a' := ?_) q38_40 rfl rfl (any_of HT_.out (by kernel_rfl)) (fun _ _ _ h => h) (Or.inl ⟨by rfl, ?_⟩) ?_ ?_; rotate_left
                             ·intro w'
                              go_simp; with_reducible rfl
                             rotate_left
                             ·simp only [Act.put, qa38, qb38, qc38, i64_w, i32_w]
                              rfl
                             refine take_ (i := 5) (N := some 103) (v := ?_) (a' := ?_) q38_41 rfl rfl (take_ofW HT_.out HW_.out (by kernel_rfl)) (fun _ _ _ h => h) (Or.inl ⟨by rfl, ?_⟩) hHeld ?_ ?_; rotate_left
                             ·rintro w' ⟨s0, s1, s2, s3, s4, s5, s6, s7, s8, s9, s10, s11, s12⟩
                              go_simp; with_reducible rfl
                             rotate_left
                             ·simp only [Act.put, qa38, qb38, qc38, i64_w, i32_w]
                              rfl
                             refine take_ (i := 8) (N := some 106) (v := ?_) (a' := ?_) q38_42 rfl rfl (take_ofW HT_.out HW_.out (by kernel_rfl)) (fun _ _ _ h => h) (Or.inl ⟨by rfl, ?_⟩) hHeld ?_ ?_; rotate_left
                             ·rintro w' ⟨s0, s1, s2, s3, s4, s5, s6, s7, s8, s9, s10, s11, s12⟩
                              go_simp; with_reducible rfl
                             rotate_left
                             ·simp only [Act.put, qa38, qb38, qc38, i64_w, i32_w]
                              rfl
                             refine pure_ (i := 9) (N := some 107) (v := ?_) (a' := ?_) q38_43 rfl rfl (any_of HT_.out (by kernel_rfl)) (fun _ _ _ h => h) (Or.inl ⟨by rfl, ?_⟩) ?_ ?_; rotate_left
                             ·intro w'
                              go_simp; with_reducible rfl
                             rotate_left
                             ·simp only [Act.put, qa38, qb38, qc38, i64_w, i32_w]
                              rfl
                             refine take_ (i := 10) (N := some 108) (v := ?_) (a' := ?_) q38_44 rfl rfl (take_ofW HT_.out HW_.out (by kernel_rfl)) (fun _ _ _ h => h) (Or.inl ⟨by rfl, ?_⟩) hHeld ?_ ?_; rotate_left
                             ·rintro w' ⟨s0, s1, s2, s3, s4, s5, s6, s7, s8, s9, s10, s11, s12⟩
                              go_simp; with_reducible rfl
                             rotate_left
                             ·simp only [Act.put, qa38, qb38, qc38, i64_w, i32_w]
                              rfl
                             refine take_ (i := 13) (N := some 111) (v := ?_) (a' := ?_) q38_45 rfl rfl (take_ofW HT_.out HW_.out (by kernel_rfl)) (fun _ _ _ h => h) (Or.inl ⟨by rfl, ?_⟩) hHeld ?_ ?_; rotate_left
                             ·rintro w' ⟨s0, s1, s2, s3, s4, s5, s6, s7, s8, s9, s10, s11, s12⟩
                              go_simp; with_reducible rfl
                             rotate_left
                             ·simp only [Act.put, qa38, qb38, qc38, i64_w, i32_w]
                              rfl
                             refine pure_ (i := 14) (N := some 112) (v := ?_) (a' := ?_) q38_46 rfl rfl (any_of HT_.out (by kernel_rfl)) (fun _ _ _ h => h) (Or.inl ⟨by rfl, ?_⟩) ?_ ?_; rotate_left
                             ·intro w'
                              go_simp; with_reducible rfl
                             rotate_left
                             ·simp only [Act.put, qa38, qb38, qc38, i64_w, i32_w]
                              rfl
                             refine take_ (i := 15) (N := some 113) (v := ?_) (a' := ?_) q38_47 rfl rfl (take_ofW HT_.out HW_.out (by kernel_rfl)) (fun _ _ _ h => h) (Or.inl ⟨by rfl, ?_⟩) hHeld ?_ ?_; rotate_left
                             ·rintro w' ⟨s0, s1, s2, s3, s4, s5, s6, s7, s8, s9, s10, s11, s12⟩
                              go_simp; with_reducible rfl
                             rotate_left
                             ·simp only [Act.put, qa38, qb38, qc38, i64_w, i32_w]
                              rfl
                             refine last_ (i := 16) (N := some 114) q38_48 rfl rfl (one_of HT_.out (by kernel_rfl)) (by decide) (fun K hK => ?_)
                             refine goes_ Try.func69 (by kernel_rfl) rfl #[.pointer (some ⟨gb117, 0, none⟩), .agg #[.int .i64 ((rd_T46 l0_1 x87_4).f0.f0), .int .i64 ((rd_T46 l0_1 x87_4).f0.f1), .int .i64 ((rd_T46 l0_1 x87_4).f0.f2), .int .i64 ((rd_T46 l0_1 x87_4).f0.f3), .int .i64 ((rd_T46 l0_1 x87_4).f0.f4), .int .i64 ((rd_T46 l0_1 x87_4).f0.f5), .int .i64 ((rd_T46 l0_1 x87_4).f0.f6), .int .i64 ((rd_T46 l0_1 x87_4).f0.f7), .int .i64 ((rd_T46 l0_1 x87_4).f0.f8)], .int .i64 (rd x9_4 ((rd_T46 l0_1 x87_4).f1)), .int .i64 (rd x9_4 ((rd_T46 l0_1 x87_4).f2))] (by rfl) rfl rfl bE ?_
                             with_reducible refine (impl_Circuit_put.row gb117 a0_0 u118001 (.slice none 0 0) x118001_4 y124 ((rd_T46 l0_1 x87_4).f0.f0) ((rd_T46 l0_1 x87_4).f0.f1) ((rd_T46 l0_1 x87_4).f0.f2) ((rd_T46 l0_1 x87_4).f0.f3) ((rd_T46 l0_1 x87_4).f0.f4) ((rd_T46 l0_1 x87_4).f0.f5) ((rd_T46 l0_1 x87_4).f0.f6) ((rd_T46 l0_1 x87_4).f0.f7) ((rd_T46 l0_1 x87_4).f0.f8) (rd x9_4 ((rd_T46 l0_1 x87_4).f1)) (rd x9_4 ((rd_T46 l0_1 x87_4).f2)) w.heap.size (fun k_ => k_ ≠ gb120) w _ Ny124.out ?side1 ?side3 ?side4 ?side2 ?side5 ?side6).mono ?_
                             (case side1 => exact (bA BK117.out))
                             (case side2 => exact (bB HB.out))
                             (case side3 => exact (fun k_ hk => Kd.freshB (g := gb120) (o := .cells #[.int .i64 ((rd_T46 l0_1 x87_4).f0.f0), .int .i64 ((rd_T46 l0_1 x87_4).f0.f1), .int .i64 ((rd_T46 l0_1 x87_4).f0.f2), .int .i64 ((rd_T46 l0_1 x87_4).f0.f3), .int .i64 ((rd_T46 l0_1 x87_4).f0.f4), .int .i64 ((rd_T46 l0_1 x87_4).f0.f5), .int .i64 ((rd_T46 l0_1 x87_4).f0.f6), .int .i64 ((rd_T46 l0_1 x87_4).f0.f7), .int .i64 ((rd_T46 l0_1 x87_4).f0.f8), .int .i64 ((rd_T46 l0_1 x87_4).f1), .int .i64 ((rd_T46 l0_1 x87_4).f2)] 46 (0, 0)) (bA BK120.out) k_ hk))
                             (case side4 => exact (bC HO_118001.out))
                             (case side5 => exact (below_size (bB HB.out)))
                             (case side6 => have := LMc77.out; omega)
                             rintro e w_ ⟨v125, w88, rfl, rfl, ho, hb, hg, hat⟩
                             refine ⟨_, rfl, ?_⟩
                             have n0_ := am (Kd.R_over' (bC HO_4.out) (Kd.R_typed (bC HO_118001.out)) (by decide) hg); have n1_ := am (Kd.R_over' (bC HO_9.out) (Kd.R_typed (bC HO_118001.out)) (by decide) hg); have n2_ := am (blk_grown (g := gb101) (o := .cells #[.int .i64 a0_0, .slice (some ad119) l0_1.length c0_1, .slice A0_2 l0_2.length c0_2] 35 (0, 0)) (bA BK101.out) hg (Kd.R_ne HO_118001.out BK101.out (by decide))); have n3_ := am (blk_grown (g := gb102) (o := .cells #[.int .i64 0, .slice none 0 0, .slice none 0 0] 35 (0, 0)) (bA BK102.out) hg (Kd.R_ne HO_118001.out BK102.out (by decide))); have n4_ := am (blk_grown (g := gb117) (o := .cells #[.int .i64 a0_0, u118001, .slice none 0 0] 35 (0, 0)) (bA BK117.out) hg (Kd.R_ne HO_118001.out BK117.out (by decide))); have n5_ := am (blk_grown (g := gb120) (o := .cells #[.int .i64 ((rd_T46 l0_1 x87_4).f0.f0), .int .i64 ((rd_T46 l0_1 x87_4).f0.f1), .int .i64 ((rd_T46 l0_1 x87_4).f0.f2), .int .i64 ((rd_T46 l0_1 x87_4).f0.f3), .int .i64 ((rd_T46 l0_1 x87_4).f0.f4), .int .i64 ((rd_T46 l0_1 x87_4).f0.f5), .int .i64 ((rd_T46 l0_1 x87_4).f0.f6), .int .i64 ((rd_T46 l0_1 x87_4).f0.f7), .int .i64 ((rd_T46 l0_1 x87_4).f0.f8), .int .i64 ((rd_T46 l0_1 x87_4).f1), .int .i64 ((rd_T46 l0_1 x87_4).f2)] 46 (0, 0)) (bA BK120.out) hg (Kd.R_away HO_118001.out (fun _ hk => hk))); have n6_ := am (hb); have n7_ := am (ho); clear HO_4; clear HO_9; clear BK101; clear BK102; clear BK117; clear BK120; clear HB; clear HO_118001; have HO_4 := n0_; have HO_9 := n1_; have BK101 := n2_; have BK102 := n3_; have BK117 := n4_; have BK120 := n5_; have HB := n6_; have HO126 := n7_; clear n0_ n1_ n2_ n3_ n4_ n5_ n6_ n7_; clear ho hb hg hat
                             have n0_ : Aside0 (Kd.R Kd.bool 4 (w88.setCell ⟨gb117, 1, none⟩ (v125)) w.heap.size (fun _ => True) (.slice (some ad121) x4_2.length co48) x4_2) := ⟨by (with_reducible repeat (first | apply Kd.R_alloc | apply Kd.R_drewN | apply Kd.R_drew)); exact Kd.R_mono (Kd.R_far (p := ⟨gb117, 1, none⟩) (Kd.R_types HO_4.out BK117.out (by decide)) (fun _ hk => hk.2) (v125)) (fun _ hk => trivial)⟩
                             have n1_ : Aside0 (Kd.R (Kd.int .i64) 3 (w88.setCell ⟨gb117, 1, none⟩ (v125)) w.heap.size (fun _ => True) (.slice (some ad122) x9_4.length co87) x9_4) := ⟨by (with_reducible repeat (first | apply Kd.R_alloc | apply Kd.R_drewN | apply Kd.R_drew)); exact Kd.R_mono (Kd.R_far (p := ⟨gb117, 1, none⟩) (Kd.R_types HO_9.out BK117.out (by decide)) (fun _ hk => hk.2) (v125)) (fun _ hk => trivial)⟩
                             have n2_ : Aside0 (Kd.R k46 46 (w88.setCell ⟨gb117, 1, none⟩ (v125)) w.heap.size (fun k_ => k_ ≠ gb120) v125 y124) := ⟨by (with_reducible repeat (first | apply Kd.R_alloc | apply Kd.R_drewN | apply Kd.R_drew)); exact Kd.R_mono (Kd.R_far (p := ⟨gb117, 1, none⟩) (Kd.R_types HO126.out BK117.out (by decide)) (fun _ hk => hk.2) (v125)) (fun _ hk => hk.1)⟩
                             have n3_ : Aside0 ((w88.setCell ⟨gb117, 1, none⟩ (v125)).heap[gb101]? = some (.cells #[.int .i64 a0_0, .slice (some ad119) l0_1.length c0_1, .slice A0_2 l0_2.length c0_2] 35 (0, 0))) := ⟨by (with_reducible repeat (first | refine blk_drewN ?_ _ | refine blk_drew ?_ | refine blk_alloc ?_ _)); refine blk_far ?_ NB101_117.out _; (with_reducible repeat (first | refine blk_drewN ?_ _ | refine blk_drew ?_ | refine blk_alloc ?_ _)); exact BK101.out⟩
                             have n4_ : Aside0 ((w88.setCell ⟨gb117, 1, none⟩ (v125)).heap[gb102]? = some (.cells #[.int .i64 0, .slice none 0 0, .slice none 0 0] 35 (0, 0))) := ⟨by (with_reducible repeat (first | refine blk_drewN ?_ _ | refine blk_drew ?_ | refine blk_alloc ?_ _)); refine blk_far ?_ NB102_117.out _; (with_reducible repeat (first | refine blk_drewN ?_ _ | refine blk_drew ?_ | refine blk_alloc ?_ _)); exact BK102.out⟩
                             have n5_ : Aside0 ((w88.setCell ⟨gb117, 1, none⟩ (v125)).heap[gb117]? = some (.cells #[.int .i64 a0_0, v125, .slice none 0 0] 35 (0, 0))) := ⟨by (with_reducible repeat (first | refine blk_drewN ?_ _ | refine blk_drew ?_ | refine blk_alloc ?_ _)); refine blk_put (cs := #[.int .i64 a0_0, u118001, .slice none 0 0]) ?_ 1 _ rfl; (with_reducible repeat (first | refine blk_drewN ?_ _ | refine blk_drew ?_ | refine blk_alloc ?_ _)); exact BK117.out⟩
                             have n6_ : Aside0 ((w88.setCell ⟨gb117, 1, none⟩ (v125)).heap[gb120]? = some (.cells #[.int .i64 ((rd_T46 l0_1 x87_4).f0.f0), .int .i64 ((rd_T46 l0_1 x87_4).f0.f1), .int .i64 ((rd_T46 l0_1 x87_4).f0.f2), .int .i64 ((rd_T46 l0_1 x87_4).f0.f3), .int .i64 ((rd_T46 l0_1 x87_4).f0.f4), .int .i64 ((rd_T46 l0_1 x87_4).f0.f5), .int .i64 ((rd_T46 l0_1 x87_4).f0.f6), .int .i64 ((rd_T46 l0_1 x87_4).f0.f7), .int .i64 ((rd_T46 l0_1 x87_4).f0.f8), .int .i64 ((rd_T46 l0_1 x87_4).f1), .int .i64 ((rd_T46 l0_1 x87_4).f2)] 46 (0, 0))) := ⟨by (with_reducible repeat (first | refine blk_drewN ?_ _ | refine blk_drew ?_ | refine blk_alloc ?_ _)); refine blk_far ?_ NB120_117.out _; (with_reducible repeat (first | refine blk_drewN ?_ _ | refine blk_drew ?_ | refine blk_alloc ?_ _)); exact BK120.out⟩
                             have n7_ : Aside0 (Below w.heap.size w (w88.setCell ⟨gb117, 1, none⟩ (v125))) := ⟨bB HB.out⟩
                             (try clear HO_4); (try clear HO_9); (try clear HO126); (try clear BK101); (try clear BK102); (try clear BK117); (try clear BK120); (try clear HB)
                             generalize (w88.setCell ⟨gb117, 1, none⟩ (v125)) = w89 at n0_ n1_ n2_ n3_ n4_ n5_ n6_ n7_ ⊢
                             have HO_4 := n0_; have HO_9 := n1_; have HO126 := n2_; have BK101 := n3_; have BK102 := n4_; have BK117 := n5_; have BK120 := n6_; have HB := n7_; clear n0_ n1_ n2_ n3_ n4_ n5_ n6_ n7_
                             have p79 : 0 ≤ ((ji68) : Int) := of_decide_eq_true (by first | with_reducible assumption | assumption)
                             have q79 : ((ji68) : Int) < ((x9_4.length : Int) : Int) := of_decide_eq_true (by first | with_reducible assumption | assumption)
                             obtain ⟨go79, co79, eo79, gb79, gl79, cl79, HG79⟩ := Kd.R_form HO_9.out (by omega)
                             (first | cases eo79 | (injection eo79 with ea_ en_ ec_; (first | subst ea_ | (injection ea_ with ea_; subst ea_)); subst ec_; clear en_))
                             have GB79 := am gb79; have GG79 := am HG79; clear gb79 gl79 HG79
                             (first | simp only [add_plain] at hx122_0 | skip)
                             (first | simp only [add_plain] at hx123_0 | skip)
                             obtain ⟨hx79_0, hf79_0⟩ := Kd.R_celln 0 HO_9.out ((ji68) : Int) p79 q79
                             replace p79 := eq_true p79
                             replace q79 := eq_true q79
                             have HP90 := Kd.R_putn HO_9.out ((ji68) : Int) (wrap64 (wrap64 (2 + a0_0) + (y124.length : Int)))
                             rw [← Ny127.out] at HP90
                             have HQ90 := am HP90; clear HP90
                             refine hK.out _ _ ?_
                             clear hK K
                             refine norm_ (a' := ?_) ?_ ?_; rotate_left
                             ·show Act.put _ (some 114) _ = _
                              simp only [Act.put, qa38, qb38, qc38, i64_w, i32_w]
                              rfl
                             refine pure_ (i := 17) (N := some 115) (v := ?_) (a' := ?_) q38_49 rfl rfl (any_of HT_.out (by kernel_rfl)) (fun _ _ _ h => h) (Or.inl ⟨by rfl, ?_⟩) ?_ ?_; rotate_left
                             ·intro w'
                              go_simp; with_reducible rfl
                             rotate_left
                             ·simp only [Act.put, qa38, qb38, qc38, i64_w, i32_w]
                              rfl
                             refine last_ (i := 18) (N := none) q38_50 rfl rfl (one_of HT_.out (by kernel_rfl)) (by decide) (fun K hK => ?_)
                             refine skip_ (w1 := ?_) (by rfl) rfl ?_ ?_; rotate_left
                             ·go_simp
                              rfl
                             refine hK.out _ _ ?_
                             clear hK K
                             refine done_ (done_of HT_.out (by kernel_rfl)) ?_
                             try go_wp2
                             go_roundg k4
                             case measure => have := HK1.out; have := HK2.out; have := HK3.out; have := HK4.out; omega
                             case rel => exact ⟨(y127), (wrap64 (x87_4 + 1)), (y124), (v125), (by first | rfl | (simp; done) | (simp [*]; done)), H', ⟨by have := HK1.out; have := HK2.out; have := HK3.out; have := HK4.out; omega⟩, ⟨by (with_reducible repeat (first | apply Kd.R_alloc | apply Kd.R_drewN | apply Kd.R_drew)); exact Kd.R_mono (Kd.R_far (p := ⟨go79, ((ji68) : Int).toNat, none⟩) (Kd.R_types HO_4.out GG79.out (by decide)) (fun _ hk => hk.2) (.int .i64 (wrap64 (wrap64 (2 + a0_0) + (y124.length : Int))))) (fun _ hk => trivial)⟩, ⟨by (with_reducible repeat (first | apply Kd.R_alloc | apply Kd.R_drewN | apply Kd.R_drew)); exact HQ90.out⟩, ⟨by (with_reducible repeat (first | apply Kd.R_alloc | apply Kd.R_drewN | apply Kd.R_drew)); exact Kd.R_mono (Kd.R_far (p := ⟨go79, ((ji68) : Int).toNat, none⟩) (Kd.R_types HO126.out GG79.out (by decide)) (fun _ hk => hk.2) (.int .i64 (wrap64 (wrap64 (2 + a0_0) + (y124.length : Int))))) (fun _ hk => trivial)⟩, ⟨by (with_reducible repeat (first | refine blk_drewN ?_ _ | refine blk_drew ?_ | refine blk_alloc ?_ _)); refine blk_far ?_ (by have h_ := Kd.R_ne HO_9.out BK101.out (by decide); intro e_; exact h_ (by rw [e_]; rfl)) _; (with_reducible repeat (first | refine blk_drewN ?_ _ | refine blk_drew ?_ | refine blk_alloc ?_ _)); exact BK101.out⟩, ⟨by (with_reducible repeat (first | refine blk_drewN ?_ _ | refine blk_drew ?_ | refine blk_alloc ?_ _)); refine blk_far ?_ (by have h_ := Kd.R_ne HO_9.out BK102.out (by decide); intro e_; exact h_ (by rw [e_]; rfl)) _; (with_reducible repeat (first | refine blk_drewN ?_ _ | refine blk_drew ?_ | refine blk_alloc ?_ _)); exact BK102.out⟩, ⟨by (with_reducible repeat (first | refine blk_drewN ?_ _ | refine blk_drew ?_ | refine blk_alloc ?_ _)); refine blk_far ?_ (by have h_ := Kd.R_ne HO_9.out BK117.out (by decide); intro e_; exact h_ (by rw [e_]; rfl)) _; (with_reducible repeat (first | refine blk_drewN ?_ _ | refine blk_drew ?_ | refine blk_alloc ?_ _)); exact BK117.out⟩, ⟨bB HB.out⟩⟩
                            ·rw [if_neg c78] at H
                             exact absurd H (by simp)
                           ·rw [if_neg c77] at H
                            exact absurd H (by simp)
                          ·rw [if_neg c76] at H
                           exact absurd H (by simp)
                         ·rw [if_neg c75] at H
                          exact absurd H (by simp)
                        ·rw [if_neg c74] at H
                         exact absurd H (by simp)
                       ·rw [if_neg c73] at H
                        exact absurd H (by simp)
                      ·replace c72 := Bool.eq_false_iff.mpr c72
                       subst c72
                       have H1 : (impl_TrimCircuit.l3 k4 (wrap64 (3 + a0_0)) x4_2 x9_4 l0_1 (l0_1.length : Int) (wrap64 (x87_4 + 1)) a0_0 l0_1 l0_2 a0_0 x118001_4) = some (r1, r2, r3) := by rw [if_neg (show ¬ (false = true) by decide)] at H; exact H
                       clear H; have H := H1; clear H1
                       have H' := am H
                       clear H
                       have p119 : 0 ≤ (x87_4 : Int) := of_decide_eq_true (by first | with_reducible assumption | assumption)
                       have q119 : x87_4 < (l0_1.length : Int) := of_decide_eq_true (by first | with_reducible assumption | assumption)
                       obtain ⟨ad119, e119, hx119_0, hx119_1, hx119_2, hx119_3, hx119_4, hx119_5, hx119_6, hx119_7, hx119_8, hx119_9, hx119_10⟩ := at_T46 HR0_1.out x87_4 p119 q119
                       cases e119
                       replace hx119_0 := (HB.out.cell (World.block_lt_of_cell? w _ hx119_0)).trans hx119_0
                       replace hx119_1 := (HB.out.cell (World.block_lt_of_cell? w _ hx119_1)).trans hx119_1
                       replace hx119_2 := (HB.out.cell (World.block_lt_of_cell? w _ hx119_2)).trans hx119_2
                       replace hx119_3 := (HB.out.cell (World.block_lt_of_cell? w _ hx119_3)).trans hx119_3
                       replace hx119_4 := (HB.out.cell (World.block_lt_of_cell? w _ hx119_4)).trans hx119_4
                       replace hx119_5 := (HB.out.cell (World.block_lt_of_cell? w _ hx119_5)).trans hx119_5
                       replace hx119_6 := (HB.out.cell (World.block_lt_of_cell? w _ hx119_6)).trans hx119_6
                       replace hx119_7 := (HB.out.cell (World.block_lt_of_cell? w _ hx119_7)).trans hx119_7
                       replace hx119_8 := (HB.out.cell (World.block_lt_of_cell? w _ hx119_8)).trans hx119_8
                       replace hx119_9 := (HB.out.cell (World.block_lt_of_cell? w _ hx119_9)).trans hx119_9
                       replace hx119_10 := (HB.out.cell (World.block_lt_of_cell? w _ hx119_10)).trans hx119_10
                       replace p119 := eq_true p119
                       replace q119 := eq_true q119
                       go_wp2_with (first | ((with_reducible refine gate_dst (N := 12) rfl ?_); refine box_event ?hg (N := 12) ?hd (cs := #[.int .i64 0, .int .i64 0, .int .i64 0, .int .i64 0, .int .i64 0, .int .i64 0, .int .i64 0, .int .i64 0, .int .i64 0, .int .i64 0, .int .i64 0]) (t := 46) ?hr ?_; (case hd => rfl); (case hg => rfl); (case hr => first | (go_simp; done) | (go_simp; rfl)); intro gb120 hg w91 hbox hb; have n0_ := am (Kd.R_below (bC HO_4.out) hb); have n1_ := am (Kd.R_below (bC HO_9.out) hb); have n2_ := am (Kd.R_below (Kd.R_elderB (bC HO_118001.out) gb120 (Nat.le_of_eq hg.symm)) hb); have n3_ := am (blk_below (bA BK101.out) hb); have n4_ := am (blk_below (bA BK102.out) hb); have n5_ := am (blk_below (bA BK117.out) hb); have n6_ := am (below_step (bB HB.out) hb); have n7_ := am (hbox); have n8_ := am ((by rw [hg]; exact (below_size (bB HB.out)) : w.heap.size ≤ gb120)); have n9_ := am ((by rw [hg]; exact (below_size (bB HB.out)) : w.heap.size ≤ gb120)); have n10_ := am ((by rw [hg]; exact Nat.ne_of_lt (blk_lt (g := gb101) (o := .cells #[.int .i64 a0_0, .slice (some ad119) l0_1.length c0_1, .slice A0_2 l0_2.length c0_2] 35 (0, 0)) (bA BK101.out)) : gb101 ≠ gb120)); have n11_ := am ((by rw [hg]; exact Nat.ne_of_gt (blk_lt (g := gb101) (o := .cells #[.int .i64 a0_0, .slice (some ad119) l0_1.length c0_1, .slice A0_2 l0_2.length c0_2] 35 (0, 0)) (bA BK101.out)) : gb120 ≠ gb101)); have n12_ := am ((by rw [hg]; exact Nat.ne_of_lt (blk_lt (g := gb102) (o := .cells #[.int .i64 0, .slice none 0 0, .slice none 0 0] 35 (0, 0)) (bA BK102.out)) : gb102 ≠ gb120)); have n13_ := am ((by rw [hg]; exact Nat.ne_of_gt (blk_lt (g := gb102) (o := .cells #[.int .i64 0, .slice none 0 0, .slice none 0 0] 35 (0, 0)) (bA BK102.out)) : gb120 ≠ gb102)); have n14_ := am ((by rw [hg]; exact Nat.ne_of_lt (blk_lt (g := gb117) (o := .cells #[.int .i64 a0_0, u118001, .slice none 0 0] 35 (0, 0)) (bA BK117.out)) : gb117 ≠ gb120)); have n15_ := am ((by rw [hg]; exact Nat.ne_of_gt (blk_lt (g := gb117) (o := .cells #[.int .i64 a0_0, u118001, .slice none 0 0] 35 (0, 0)) (bA BK117.out)) : gb120 ≠ gb117)); clear HO_4; clear HO_9; clear HO_118001; clear BK101; clear BK102; clear BK117; clear HB; have HO_4 := n0_; have HO_9 := n1_; have HO_118001 := n2_; have BK101 := n3_; have BK102 := n4_; have BK117 := n5_; have HB := n6_; have BK120 := n7_; have GW120 := n8_; have GE120 := n9_; have NB101_120 := n10_; have NB120_101 := n11_; have NB102_120 := n12_; have NB120_102 := n13_; have NB117_120 := n14_; have NB120_117 := n15_; clear n0_ n1_ n2_ n3_ n4_ n5_ n6_ n7_ n8_ n9_ n10_ n11_ n12_ n13_ n14_ n15_; clear hb hbox hg; have hnb92 := NB120_101.out; have hnc92 := NB101_120.out; have hnb93 := NB120_102.out; have hnc93 := NB102_120.out; have hnb94 := NB120_117.out; have hnc94 := NB117_120.out; have hcz95_0 : w91.cell? ⟨gb120, 0, none⟩ = some (.int .i64 0) := (blk_cell BK120.out 0).trans rfl; have hcz95_1 : w91.cell? ⟨gb120, 1, none⟩ = some (.int .i64 0) := (blk_cell BK120.out 1).trans rfl; have hcz95_2 : w91.cell? ⟨gb120, 2, none⟩ = some (.int .i64 0) := (blk_cell BK120.out 2).trans rfl; have hcz95_3 : w91.cell? ⟨gb120, 3, none⟩ = some (.int .i64 0) := (blk_cell BK120.out 3).trans rfl; have hcz95_4 : w91.cell? ⟨gb120, 4, none⟩ = some (.int .i64 0) := (blk_cell BK120.out 4).trans rfl; have hcz95_5 : w91.cell? ⟨gb120, 5, none⟩ = some (.int .i64 0) := (blk_cell BK120.out 5).trans rfl; have hcz95_6 : w91.cell? ⟨gb120, 6, none⟩ = some (.int .i64 0) := (blk_cell BK120.out 6).trans rfl; have hcz95_7 : w91.cell? ⟨gb120, 7, none⟩ = some (.int .i64 0) := (blk_cell BK120.out 7).trans rfl; have hcz95_8 : w91.cell? ⟨gb120, 8, none⟩ = some (.int .i64 0) := (blk_cell BK120.out 8).trans rfl; have hcz95_9 : w91.cell? ⟨gb120, 9, none⟩ = some (.int .i64 0) := (blk_cell BK120.out 9).trans rfl; have hcz95_10 : w91.cell? ⟨gb120, 10, none⟩ = some (.int .i64 0) := (blk_cell BK120.out 10).trans rfl; have hfz95_0 := blk_frozen BK120.out 0; have hfz95_1 := blk_frozen BK120.out 1; have hfz95_2 := blk_frozen BK120.out 2; have hfz95_3 := blk_frozen BK120.out 3; have hfz95_4 := blk_frozen BK120.out 4; have hfz95_5 := blk_frozen BK120.out 5; have hfz95_6 := blk_frozen BK120.out 6; have hfz95_7 := blk_frozen BK120.out 7; have hfz95_8 := blk_frozen BK120.out 8; have hfz95_9 := blk_frozen BK120.out 9; have hfz95_10 := blk_frozen BK120.out 10; have p121 : 0 ≤ ((ji68) : Int) := of_decide_eq_true (by first | with_reducible assumption | assumption); have q121 : (ji68) < (x4_2.length : Int) := of_decide_eq_true (by first | with_reducible assumption | assumption); obtain ⟨ad121, e121, hx121_0⟩ := Kd.at_bool (Kd.R_reads' HO_4.out).2.2 (ji68) p121 q121; (try rw [← Nbq71.out] at hx121_0); cases e121; have hn121_0 : ad121.block ≠ gb120 := Kd.own_blk (Kd.R_ne HO_4.out BK120.out (by decide)); have hn121_1 : ad121.block ≠ gb120 := Kd.own_blk (Kd.R_ne HO_4.out BK120.out (by decide)); have hn121_2 : ad121.block ≠ gb120 := Kd.own_blk (Kd.R_ne HO_4.out BK120.out (by decide)); have hn121_3 : ad121.block ≠ gb120 := Kd.own_blk (Kd.R_ne HO_4.out BK120.out (by decide)); have hn121_4 : ad121.block ≠ gb120 := Kd.own_blk (Kd.R_ne HO_4.out BK120.out (by decide)); have hn121_5 : ad121.block ≠ gb120 := Kd.own_blk (Kd.R_ne HO_4.out BK120.out (by decide)); have hn121_6 : ad121.block ≠ gb120 := Kd.own_blk (Kd.R_ne HO_4.out BK120.out (by decide)); have hn121_7 : ad121.block ≠ gb120 := Kd.own_blk (Kd.R_ne HO_4.out BK120.out (by decide)); have hn121_8 : ad121.block ≠ gb120 := Kd.own_blk (Kd.R_ne HO_4.out BK120.out (by decide)); have hn121_9 : ad121.block ≠ gb120 := Kd.own_blk (Kd.R_ne HO_4.out BK120.out (by decide)); have hn121_10 : ad121.block ≠ gb120 := Kd.own_blk (Kd.R_ne HO_4.out BK120.out (by decide)); replace hx121_0 := (cell_far (p := ⟨gb120, 0, none⟩) (by first | (rw [add_block]; exact hn121_0) | (show (Addr.add _ _).block ≠ _; rw [add_block]; exact hn121_0) | exact hn121_0) (.int .i64 ((rd_T46 l0_1 x87_4).f0.f0))).trans hx121_0; replace hx121_0 := (cell_far (p := ⟨gb120, 1, none⟩) (by first | (rw [add_block]; exact hn121_1) | (show (Addr.add _ _).block ≠ _; rw [add_block]; exact hn121_1) | exact hn121_1) (.int .i64 ((rd_T46 l0_1 x87_4).f0.f1))).trans hx121_0; replace hx121_0 := (cell_far (p := ⟨gb120, 2, none⟩) (by first | (rw [add_block]; exact hn121_2) | (show (Addr.add _ _).block ≠ _; rw [add_block]; exact hn121_2) | exact hn121_2) (.int .i64 ((rd_T46 l0_1 x87_4).f0.f2))).trans hx121_0; replace hx121_0 := (cell_far (p := ⟨gb120, 3, none⟩) (by first | (rw [add_block]; exact hn121_3) | (show (Addr.add _ _).block ≠ _; rw [add_block]; exact hn121_3) | exact hn121_3) (.int .i64 ((rd_T46 l0_1 x87_4).f0.f3))).trans hx121_0; replace hx121_0 := (cell_far (p := ⟨gb120, 4, none⟩) (by first | (rw [add_block]; exact hn121_4) | (show (Addr.add _ _).block ≠ _; rw [add_block]; exact hn121_4) | exact hn121_4) (.int .i64 ((rd_T46 l0_1 x87_4).f0.f4))).trans hx121_0; replace hx121_0 := (cell_far (p := ⟨gb120, 5, none⟩) (by first | (rw [add_block]; exact hn121_5) | (show (Addr.add _ _).block ≠ _; rw [add_block]; exact hn121_5) | exact hn121_5) (.int .i64 ((rd_T46 l0_1 x87_4).f0.f5))).trans hx121_0; replace hx121_0 := (cell_far (p := ⟨gb120, 6, none⟩) (by first | (rw [add_block]; exact hn121_6) | (show (Addr.add _ _).block ≠ _; rw [add_block]; exact hn121_6) | exact hn121_6) (.int .i64 ((rd_T46 l0_1 x87_4).f0.f6))).trans hx121_0; replace hx121_0 := (cell_far (p := ⟨gb120, 7, none⟩) (by first | (rw [add_block]; exact hn121_7) | (show (Addr.add _ _).block ≠ _; rw [add_block]; exact hn121_7) | exact hn121_7) (.int .i64 ((rd_T46 l0_1 x87_4).f0.f7))).trans hx121_0; replace hx121_0 := (cell_far (p := ⟨gb120, 8, none⟩) (by first | (rw [add_block]; exact hn121_8) | (show (Addr.add _ _).block ≠ _; rw [add_block]; exact hn121_8) | exact hn121_8) (.int .i64 ((rd_T46 l0_1 x87_4).f0.f8))).trans hx121_0; replace hx121_0 := (cell_far (p := ⟨gb120, 9, none⟩) (by first | (rw [add_block]; exact hn121_9) | (show (Addr.add _ _).block ≠ _; rw [add_block]; exact hn121_9) | exact hn121_9) (.int .i64 ((rd_T46 l0_1 x87_4).f1))).trans hx121_0; replace hx121_0 := (cell_far (p := ⟨gb120, 10, none⟩) (by first | (rw [add_block]; exact hn121_10) | (show (Addr.add _ _).block ≠ _; rw [add_block]; exact hn121_10) | exact hn121_10) (.int .i64 ((rd_T46 l0_1 x87_4).f2))).trans hx121_0; clear hn121_0; clear hn121_1; clear hn121_2; clear hn121_3; clear hn121_4; clear hn121_5; clear hn121_6; clear hn121_7; clear hn121_8; clear hn121_9; clear hn121_10; replace p121 := eq_true p121; replace q121 := eq_true q121))
                       go_roundg k4
                       case measure => have := HK1.out; have := HK2.out; have := HK3.out; have := HK4.out; omega
                       case rel => exact ⟨(x9_4), (wrap64 (x87_4 + 1)), (x118001_4), (u118001), (by first | rfl | (simp; done) | (simp [*]; done)), H', ⟨by have := HK1.out; have := HK2.out; have := HK3.out; have := HK4.out; omega⟩, ⟨by (with_reducible repeat (first | apply Kd.R_alloc | apply Kd.R_drewN | apply Kd.R_drew)); exact Kd.R_mono (Kd.R_far (p := ⟨gb120, 10, none⟩) (Kd.R_far (p := ⟨gb120, 9, none⟩) (Kd.R_far (p := ⟨gb120, 8, none⟩) (Kd.R_far (p := ⟨gb120, 7, none⟩) (Kd.R_far (p := ⟨gb120, 6, none⟩) (Kd.R_far (p := ⟨gb120, 5, none⟩) (Kd.R_far (p := ⟨gb120, 4, none⟩) (Kd.R_far (p := ⟨gb120, 3, none⟩) (Kd.R_far (p := ⟨gb120, 2, none⟩) (Kd.R_far (p := ⟨gb120, 1, none⟩) (Kd.R_far (p := ⟨gb120, 0, none⟩) (Kd.R_types HO_4.out BK120.out (by decide)) (fun _ hk => hk.2) (.int .i64 ((rd_T46 l0_1 x87_4).f0.f0))) (fun _ hk => hk.2) (.int .i64 ((rd_T46 l0_1 x87_4).f0.f1))) (fun _ hk => hk.2) (.int .i64 ((rd_T46 l0_1 x87_4).f0.f2))) (fun _ hk => hk.2) (.int .i64 ((rd_T46 l0_1 x87_4).f0.f3))) (fun _ hk => hk.2) (.int .i64 ((rd_T46 l0_1 x87_4).f0.f4))) (fun _ hk => hk.2) (.int .i64 ((rd_T46 l0_1 x87_4).f0.f5))) (fun _ hk => hk.2) (.int .i64 ((rd_T46 l0_1 x87_4).f0.f6))) (fun _ hk => hk.2) (.int .i64 ((rd_T46 l0_1 x87_4).f0.f7))) (fun _ hk => hk.2) (.int .i64 ((rd_T46 l0_1 x87_4).f0.f8))) (fun _ hk => hk.2) (.int .i64 ((rd_T46 l0_1 x87_4).f1))) (fun _ hk => hk.2) (.int .i64 ((rd_T46 l0_1 x87_4).f2))) (fun _ hk => trivial)⟩, ⟨by (with_reducible repeat (first | apply Kd.R_alloc | apply Kd.R_drewN | apply Kd.R_drew)); exact Kd.R_mono (Kd.R_far (p := ⟨gb120, 10, none⟩) (Kd.R_far (p := ⟨gb120, 9, none⟩) (Kd.R_far (p := ⟨gb120, 8, none⟩) (Kd.R_far (p := ⟨gb120, 7, none⟩) (Kd.R_far (p := ⟨gb120, 6, none⟩) (Kd.R_far (p := ⟨gb120, 5, none⟩) (Kd.R_far (p := ⟨gb120, 4, none⟩) (Kd.R_far (p := ⟨gb120, 3, none⟩) (Kd.R_far (p := ⟨gb120, 2, none⟩) (Kd.R_far (p := ⟨gb120, 1, none⟩) (Kd.R_far (p := ⟨gb120, 0, none⟩) (Kd.R_types HO_9.out BK120.out (by decide)) (fun _ hk => hk.2) (.int .i64 ((rd_T46 l0_1 x87_4).f0.f0))) (fun _ hk => hk.2) (.int .i64 ((rd_T46 l0_1 x87_4).f0.f1))) (fun _ hk => hk.2) (.int .i64 ((rd_T46 l0_1 x87_4).f0.f2))) (fun _ hk => hk.2) (.int .i64 ((rd_T46 l0_1 x87_4).f0.f3))) (fun _ hk => hk.2) (.int .i64 ((rd_T46 l0_1 x87_4).f0.f4))) (fun _ hk => hk.2) (.int .i64 ((rd_T46 l0_1 x87_4).f0.f5))) (fun _ hk => hk.2) (.int .i64 ((rd_T46 l0_1 x87_4).f0.f6))) (fun _ hk => hk.2) (.int .i64 ((rd_T46 l0_1 x87_4).f0.f7))) (fun _ hk => hk.2) (.int .i64 ((rd_T46 l0_1 x87_4).f0.f8))) (fun _ hk => hk.2) (.int .i64 ((rd_T46 l0_1 x87_4).f1))) (fun _ hk => hk.2) (.int .i64 ((rd_T46 l0_1 x87_4).f2))) (fun _ hk => trivial)⟩, ⟨by (with_reducible repeat (first | apply Kd.R_alloc | apply Kd.R_drewN | apply Kd.R_drew)); exact Kd.R_mono (Kd.R_far (p := ⟨gb120, 10, none⟩) (Kd.R_far (p := ⟨gb120, 9, none⟩) (Kd.R_far (p := ⟨gb120, 8, none⟩) (Kd.R_far (p := ⟨gb120, 7, none⟩) (Kd.R_far (p := ⟨gb120, 6, none⟩) (Kd.R_far (p := ⟨gb120, 5, none⟩) (Kd.R_far (p := ⟨gb120, 4, none⟩) (Kd.R_far (p := ⟨gb120, 3, none⟩) (Kd.R_far (p := ⟨gb120, 2, none⟩) (Kd.R_far (p := ⟨gb120, 1, none⟩) (Kd.R_far (p := ⟨gb120, 0, none⟩) (Kd.R_mono HO_118001.out (fun k_ hk => (⟨hk, hk.2⟩ : _ ∧ k_ ≠ gb120))) (fun _ hk => hk.2) (.int .i64 ((rd_T46 l0_1 x87_4).f0.f0))) (fun _ hk => hk.2) (.int .i64 ((rd_T46 l0_1 x87_4).f0.f1))) (fun _ hk => hk.2) (.int .i64 ((rd_T46 l0_1 x87_4).f0.f2))) (fun _ hk => hk.2) (.int .i64 ((rd_T46 l0_1 x87_4).f0.f3))) (fun _ hk => hk.2) (.int .i64 ((rd_T46 l0_1 x87_4).f0.f4))) (fun _ hk => hk.2) (.int .i64 ((rd_T46 l0_1 x87_4).f0.f5))) (fun _ hk => hk.2) (.int .i64 ((rd_T46 l0_1 x87_4).f0.f6))) (fun _ hk => hk.2) (.int .i64 ((rd_T46 l0_1 x87_4).f0.f7))) (fun _ hk => hk.2) (.int .i64 ((rd_T46 l0_1 x87_4).f0.f8))) (fun _ hk => hk.2) (.int .i64 ((rd_T46 l0_1 x87_4).f1))) (fun _ hk => hk.2) (.int .i64 ((rd_T46 l0_1 x87_4).f2))) (fun _ hk => trivial)⟩, ⟨by (with_reducible repeat (first | refine blk_drewN ?_ _ | refine blk_drew ?_ | refine blk_alloc ?_ _)); refine blk_far ?_ NB101_120.out _; (with_reducible repeat (first | refine blk_drewN ?_ _ | refine blk_drew ?_ | refine blk_alloc ?_ _)); refine blk_far ?_ NB101_120.out _; (with_reducible repeat (first | refine blk_drewN ?_ _ | refine blk_drew ?_ | refine blk_alloc ?_ _)); refine blk_far ?_ NB101_120.out _; (with_reducible repeat (first | refine blk_drewN ?_ _ | refine blk_drew ?_ | refine blk_alloc ?_ _)); refine blk_far ?_ NB101_120.out _; (with_reducible repeat (first | refine blk_drewN ?_ _ | refine blk_drew ?_ | refine blk_alloc ?_ _)); refine blk_far ?_ NB101_120.out _; (with_reducible repeat (first | refine blk_drewN ?_ _ | refine blk_drew ?_ | refine blk_alloc ?_ _)); refine blk_far ?_ NB101_120.out _; (with_reducible repeat (first | refine blk_drewN ?_ _ | refine blk_drew ?_ | refine blk_alloc ?_ _)); refine blk_far ?_ NB101_120.out _; (with_reducible repeat (first | refine blk_drewN ?_ _ | refine blk_drew ?_ | refine blk_alloc ?_ _)); refine blk_far ?_ NB101_120.out _; (with_reducible repeat (first | refine blk_drewN ?_ _ | refine blk_drew ?_ | refine blk_alloc ?_ _)); refine blk_far ?_ NB101_120.out _; (with_reducible repeat (first | refine blk_drewN ?_ _ | refine blk_drew ?_ | refine blk_alloc ?_ _)); refine blk_far ?_ NB101_120.out _; (with_reducible repeat (first | refine blk_drewN ?_ _ | refine blk_drew ?_ | refine blk_alloc ?_ _)); refine blk_far ?_ NB101_120.out _; (with_reducible repeat (first | refine blk_drewN ?_ _ | refine blk_drew ?_ | refine blk_alloc ?_ _)); exact BK101.out⟩, ⟨by (with_reducible repeat (first | refine blk_drewN ?_ _ | refine blk_drew ?_ | refine blk_alloc ?_ _)); refine blk_far ?_ NB102_120.out _; (with_reducible repeat (first | refine blk_drewN ?_ _ | refine blk_drew ?_ | refine blk_alloc ?_ _)); refine blk_far ?_ NB102_120.out _; (with_reducible repeat (first | refine blk_drewN ?_ _ | refine blk_drew ?_ | refine blk_alloc ?_ _)); refine blk_far ?_ NB102_120.out _; (with_reducible repeat (first | refine blk_drewN ?_ _ | refine blk_drew ?_ | refine blk_alloc ?_ _)); refine blk_far ?_ NB102_120.out _; (with_reducible repeat (first | refine blk_drewN ?_ _ | refine blk_drew ?_ | refine blk_alloc ?_ _)); refine blk_far ?_ NB102_120.out _; (with_reducible repeat (first | refine blk_drewN ?_ _ | refine blk_drew ?_ | refine blk_alloc ?_ _)); refine blk_far ?_ NB102_120.out _; (with_reducible repeat (first | refine blk_drewN ?_ _ | refine blk_drew ?_ | refine blk_alloc ?_ _)); refine blk_far ?_ NB102_120.out _; (with_reducible repeat (first | refine blk_drewN ?_ _ | refine blk_drew ?_ | refine blk_alloc ?_ _)); refine blk_far ?_ NB102_120.out _; (with_reducible repeat (first | refine blk_drewN ?_ _ | refine blk_drew ?_ | refine blk_alloc ?_ _)); refine blk_far ?_ NB102_120.out _; (with_reducible repeat (first | refine blk_drewN ?_ _ | refine blk_drew ?_ | refine blk_alloc ?_ _)); refine blk_far ?_ NB102_120.out _; (with_reducible repeat (first | refine blk_drewN ?_ _ | refine blk_drew ?_ | refine blk_alloc ?_ _)); refine blk_far ?_ NB102_120.out _; (with_reducible repeat (first | refine blk_drewN ?_ _ | refine blk_drew ?_ | refine blk_alloc ?_ _)); exact BK102.out⟩, ⟨by (with_reducible repeat (first | refine blk_drewN ?_ _ | refine blk_drew ?_ | refine blk_alloc ?_ _)); refine blk_far ?_ NB117_120.out _; (with_reducible repeat (first | refine blk_drewN ?_ _ | refine blk_drew ?_ | refine blk_alloc ?_ _)); refine blk_far ?_ NB117_120.out _; (with_reducible repeat (first | refine blk_drewN ?_ _ | refine blk_drew ?_ | refine blk_alloc ?_ _)); refine blk_far ?_ NB117_120.out _; (with_reducible repeat (first | refine blk_drewN ?_ _ | refine blk_drew ?_ | refine blk_alloc ?_ _)); refine blk_far ?_ NB117_120.out _; (with_reducible repeat (first | refine blk_drewN ?_ _ | refine blk_drew ?_ | refine blk_alloc ?_ _)); refine blk_far ?_ NB117_120.out _; (with_reducible repeat (first | refine blk_drewN ?_ _ | refine blk_drew ?_ | refine blk_alloc ?_ _)); refine blk_far ?_ NB117_120.out _; (with_reducible repeat (first | refine blk_drewN ?_ _ | refine blk_drew ?_ | refine blk_alloc ?_ _)); refine blk_far ?_ NB117_120.out _; (with_reducible repeat (first | refine blk_drewN ?_ _ | refine blk_drew ?_ | refine blk_alloc ?_ _)); refine blk_far ?_ NB117_120.out _; (with_reducible repeat (first | refine blk_drewN ?_ _ | refine blk_drew ?_ | refine blk_alloc ?_ _)); refine blk_far ?_ NB117_120.out _; (with_reducible repeat (first | refine blk_drewN ?_ _ | refine blk_drew ?_ | refine blk_alloc ?_ _)); refine blk_far ?_ NB117_120.out _; (with_reducible repeat (first | refine blk_drewN ?_ _ | refine blk_drew ?_ | refine blk_alloc ?_ _)); refine blk_far ?_ NB117_120.out _; (with_reducible repeat (first | refine blk_drewN ?_ _ | refine blk_drew ?_ | refine blk_alloc ?_ _)); exact BK117.out⟩, ⟨bB HB.out⟩⟩
                     ·rw [if_neg c70] at H
                      exact absurd H (by simp)
                    ·rw [if_neg c69] at H
                     exact absurd H (by simp)
                   ·rw [if_neg c67] at H
                    exact absurd H (by simp)
                  ·rw [if_neg c66] at H
                   exact absurd H (by simp)
                 ·rw [if_neg c65] at H
                  have c65b0 : decide (x87_4 < (l0_1.length : Int)) = false := decide_eq_false c65
                  clear c65
                  have H' := am H
                  clear H; have hnb96 := NB101_102.out; have hnc96 := NB102_101.out; have hnb97 := NB101_117.out; have hnc97 := NB117_101.out
                  have hcz98_0 : wr.cell? ⟨gb101, 0, none⟩ = some (.int .i64 a0_0) := (blk_cell BK101.out 0).trans rfl
                  have hcz98_1 : wr.cell? ⟨gb101, 1, none⟩ = some (.slice A0_1 l0_1.length c0_1) := (blk_cell BK101.out 1).trans rfl
                  have hcz98_2 : wr.cell? ⟨gb101, 2, none⟩ = some (.slice A0_2 l0_2.length c0_2) := (blk_cell BK101.out 2).trans rfl
                  have hfz98_0 := blk_frozen BK101.out 0; have hfz98_1 := blk_frozen BK101.out 1; have hfz98_2 := blk_frozen BK101.out 2
                  go_wp2
                  go_loopg [120] k4 (fun kq v120 w' => ∃ (x120_5 : Int) (x118002_5 : List Int) (u118002 : Value), v120 = .int .i64 x120_5 ∧ Aside0 (impl_TrimCircuit.l4 kq x9_4 l0_2 (l0_2.length : Int) x120_5 a0_0 x118001_4 x118002_5 = some (r1, r2, r3)) ∧ Aside0 (kq ≤ k4) ∧ Aside0 (Kd.R (Kd.int .i64) 3 w' w.heap.size (fun k_ => some k_ ≠ (u118002 : Value).ownBlock) v115 x9_4) ∧ Aside0 (Kd.R k46 46 w' w.heap.size (fun _ => True) u118001 x118001_4) ∧ Aside0 (Kd.R (Kd.int .i64) 3 w' w.heap.size (fun k_ => some k_ ≠ (v115 : Value).ownBlock) u118002 x118002_5) ∧ Aside0 (w'.heap[gb101]? = some (.cells #[.int .i64 a0_0, (.slice A0_1 l0_1.length c0_1), (.slice A0_2 l0_2.length c0_2)] 35 (0, 0))) ∧ Aside0 (w'.heap[gb102]? = some (.cells #[.int .i64 0, (.slice none 0 0), (.slice none 0 0)] 35 (0, 0))) ∧ Aside0 (w'.heap[gb117]? = some (.cells #[.int .i64 a0_0, u118001, u118002] 35 (0, 0))) ∧ Aside0 (Below w.heap.size w w'))
                  case atStart => exact ⟨(0), (([] : List Int)), (.slice none 0 0), (by first | rfl | (simp; done) | (simp [*]; done)), H', ⟨Nat.le_refl _⟩, ⟨by (with_reducible repeat (first | apply Kd.R_alloc | apply Kd.R_drewN | apply Kd.R_drew)); exact Kd.R_mono HO_9.out (fun _ hk => (by simp [Value.ownBlock]))⟩, ⟨by (with_reducible repeat (first | apply Kd.R_alloc | apply Kd.R_drewN | apply Kd.R_drew)); exact HO_118001.out⟩, ⟨by first | exact Kd.R_nil _ _ _ _ _ | exact Kd.N_nil _ _ _ _ _ | exact Kd.V_nil _ _ _ _ _ | exact Kd.Q_nil _ _ _ _ _ | exact Kd.S_nil _ _ _ _ _⟩, ⟨bA BK101.out⟩, ⟨bA BK102.out⟩, ⟨bA BK117.out⟩, ⟨bB HB.out⟩⟩
                  case round =>
                   clear H'
                   try clear p1
                   try clear q1
                   try clear hx1
                   try clear c2
                   try clear p2
                   try clear c3
                   try clear p3
                   try clear q3
                   try clear hx3
                   try clear hf3
                   try clear c4
                   try clear c5
                   try clear p5
                   try clear q5
                   try clear hx5
                   try clear hf5
                   try clear c6
                   try clear p6
                   try clear c7
                   try clear p7
                   try clear q7
                   try clear hx7
                   try clear hf7
                   try clear c8
                   try clear c9
                   try clear p10
                   try clear q10
                   try clear hx10
                   try clear p11
                   try clear q11
                   try clear hx11
                   try clear p12
                   try clear q12
                   try clear hx12
                   try clear c26
                   try clear c26b0
                   try clear c28
                   try clear c29
                   try clear q30
                   try clear c31
                   try clear c32
                   try clear c33
                   try clear c34
                   try clear c35
                   try clear p36
                   try clear q36
                   try clear hx36
                   try clear hf36
                   try clear c37
                   try clear c38
                   try clear p39
                   try clear q39
                   try clear hx39
                   try clear hf39
                   try clear c45
                   try clear c45b0
                   try clear c45b1
                   try clear c46
                   try clear c46b0
                   try clear c46b1
                   try clear c56
                   try clear c56b0
                   try clear c57
                   try clear c57b0
                   try clear c58
                   try clear c58b0
                   try clear p59
                   try clear q59
                   try clear hx59
                   try clear hf59
                   try clear c62
                   try clear c63
                   try clear p64
                   try clear c65
                   try clear c65b0
                   try clear c66
                   try clear c66b0
                   try clear c67
                   try clear c67b0
                   try clear c69
                   try clear c69b0
                   try clear c70
                   try clear c70b0
                   try clear q71
                   try clear c72
                   try clear c73
                   try clear c73b0
                   try clear c74
                   try clear c74b0
                   try clear c75
                   try clear c75b0
                   try clear c76
                   try clear c76b0
                   try clear c77
                   try clear c78
                   try clear c78b0
                   try clear p79
                   try clear q79
                   try clear hx79
                   try clear hf79
                   try clear c81
                   try clear c82
                   try clear c83
                   try clear c92
                   try clear c93
                   try clear c94
                   try clear c96
                   try clear c97
                   try clear hcz64_0
                   try clear hcz64_1
                   try clear hcz64_2
                   try clear hcz84_0
                   try clear hcz84_1
                   try clear hcz84_10
                   try clear hcz84_2
                   try clear hcz84_3
                   try clear hcz84_4
                   try clear hcz84_5
                   try clear hcz84_6
                   try clear hcz84_7
                   try clear hcz84_8
                   try clear hcz84_9
                   try clear hcz95_0
                   try clear hcz95_1
                   try clear hcz95_10
                   try clear hcz95_2
                   try clear hcz95_3
                   try clear hcz95_4
                   try clear hcz95_5
                   try clear hcz95_6
                   try clear hcz95_7
                   try clear hcz95_8
                   try clear hcz95_9
                   try clear hcz98_0
                   try clear hcz98_1
                   try clear hcz98_2
                   try clear hfz64_0
                   try clear hfz64_1
                   try clear hfz64_2
                   try clear hfz84_0
                   try clear hfz84_1
                   try clear hfz84_10
                   try clear hfz84_2
                   try clear hfz84_3
                   try clear hfz84_4
                   try clear hfz84_5
                   try clear hfz84_6
                   try clear hfz84_7
                   try clear hfz84_8
                   try clear hfz84_9
                   try clear hfz95_0
                   try clear hfz95_1
                   try clear hfz95_10
                   try clear hfz95_2
                   try clear hfz95_3
                   try clear hfz95_4
                   try clear hfz95_5
                   try clear hfz95_6
                   try clear hfz95_7
                   try clear hfz95_8
                   try clear hfz95_9
                   try clear hfz98_0
                   try clear hfz98_1
                   try clear hfz98_2
                   try clear hx109_0
                   try clear hx110_0
                   try clear hx110_1
                   try clear hx110_10
                   try clear hx110_2
                   try clear hx110_3
                   try clear hx110_4
                   try clear hx110_5
                   try clear hx110_6
                   try clear hx110_7
                   try clear hx110_8
                   try clear hx110_9
                   try clear hx111_0
                   try clear hx111_1
                   try clear hx111_10
                   try clear hx111_2
                   try clear hx111_3
                   try clear hx111_4
                   try clear hx111_5
                   try clear hx111_6
                   try clear hx111_7
                   try clear hx111_8
                   try clear hx111_9
                   try clear hx119_0
                   try clear hx119_1
                   try clear hx119_10
                   try clear hx119_2
                   try clear hx119_3
                   try clear hx119_4
                   try clear hx119_5
                   try clear hx119_6
                   try clear hx119_7
                   try clear hx119_8
                   try clear hx119_9
                   try clear hx121_0
                   try clear hx122_0
                   try clear hx123_0
                   try clear hx36_0
                   try clear hx39_0
                   try clear hx59_0
                   try clear hx79_0
                   try clear p1
                   try clear p10
                   try clear p109
                   try clear p11
                   try clear p111
                   try clear p119
                   try clear p121
                   try clear p122
                   try clear p123
                   try clear p2
                   try clear p3
                   try clear p36
                   try clear p39
                   try clear p5
                   try clear p59
                   try clear p6
                   try clear p64
                   try clear p79
                   try clear q1
                   try clear q10
                   try clear q109
                   try clear q11
                   try clear q111
                   try clear q119
                   try clear q121
                   try clear q122
                   try clear q123
                   try clear q3
                   try clear q30
                   try clear q36
                   try clear q39
                   try clear q5
                   try clear q59
                   try clear q79
                   obtain ⟨x120_5, x118002_5, u118002, rfl, HA, HK5, HO_9, HO_118001, HO_118002, BK101, BK102, BK117, HB⟩ := hrel
                   cases gk with
                   | zero => exact absurd HA.out (by simp [impl_TrimCircuit.l4])
                   | succ k5 =>
                    have H := HA.out; clear HA
                    simp only [impl_TrimCircuit.l4] at H
                    by_cases c99 : x120_5 < (l0_2.length : Int)
                    ·rw [if_pos c99] at H
                     have c99b0 : decide (x120_5 < (l0_2.length : Int)) = true := decide_eq_true c99
                     clear c99
                     by_cases c100 : 0 ≤ x120_5
                     ·rw [if_pos c100] at H
                      have c100b0 : decide (0 ≤ x120_5) = true := decide_eq_true c100
                      clear c100
                      by_cases c101 : x120_5 < (l0_2.length : Int)
                      ·rw [if_pos c101] at H
                       have c101b0 : decide (x120_5 < (l0_2.length : Int)) = true := decide_eq_true c101
                       clear c101
                       by_cases c102 : 0 ≤ (rd l0_2 x120_5)
                       ·rw [if_pos c102] at H
                        have c102b0 : decide (0 ≤ (rd l0_2 x120_5)) = true := decide_eq_true c102
                        clear c102
                        by_cases c103 : (rd l0_2 x120_5) < (x9_4.length : Int)
                        ·rw [if_pos c103] at H
                         have c103b0 : decide ((rd l0_2 x120_5) < (x9_4.length : Int)) = true := decide_eq_true c103
                         clear c103
                         by_cases c104 : x118002_5.length < 17592186044416
                         ·rw [if_pos c104] at H
                          have LMc104 := am c104; clear c104
                          obtain ⟨y130, hy130⟩ : ∃ y_ : List Int, y_ = (x118002_5 ++ [rd x9_4 (rd l0_2 x120_5)]) := ⟨_, rfl⟩
                          replace H : (impl_TrimCircuit.l4 k5 x9_4 l0_2 (l0_2.length : Int) (wrap64 (x120_5 + 1)) a0_0 x118001_4 y130) = some (r1, r2, r3) := by first | (rw [hy130]; with_reducible exact H) | (have H2_ := (Option.bind_some _ _).symm.trans H; rw [hy130]; with_reducible exact H2_) | (have H2_ := (Option.bind_some _ _).symm.trans H; with_reducible exact H2_) | with_reducible exact H | (rw [hy130]; exact H) | exact H
                          have Ny130 := am hy130; clear hy130
                          have H' := am H
                          clear H
                          have p128 : 0 ≤ (x120_5 : Int) := of_decide_eq_true (by first | with_reducible assumption | assumption)
                          have q128 : x120_5 < (l0_2.length : Int) := of_decide_eq_true (by first | with_reducible assumption | assumption)
                          obtain ⟨ad128, e128, hx128_0⟩ := Kd.at_int HR0_2.out x120_5 p128 q128
                          cases e128
                          replace hx128_0 := (HB.out.cell (World.block_lt_of_cell? w _ hx128_0)).trans hx128_0
                          replace p128 := eq_true p128
                          replace q128 := eq_true q128
                          try go_wp2
                          have n0_ := am (Kd.R_drew HO_9.out); have n1_ := am (Kd.R_drew HO_118001.out); have n2_ := am (Kd.R_drew HO_118002.out); have n3_ := am (blk_drew BK101.out); have n4_ := am (blk_drew BK102.out); have n5_ := am (blk_drew BK117.out); have n6_ := am (below_drew1 HB.out); clear HO_9; clear HO_118001; clear HO_118002; clear BK101; clear BK102; clear BK117; clear HB; have HO_9 := n0_; have HO_118001 := n1_; have HO_118002 := n2_; have BK101 := n3_; have BK102 := n4_; have BK117 := n5_; have HB := n6_; clear n0_ n1_ n2_ n3_ n4_ n5_ n6_
                          obtain ⟨Ao106, co106, eo106⟩ := Kd.R_slice HO_9.out
                          (first | subst eo106 | (injection eo106 with f1_ f2_ f3_; have f4_ := f1_.symm; have f5_ := f3_.symm; clear f1_ f2_ f3_; subst f4_; subst f5_))
                          have p129 : 0 ≤ ((rd l0_2 x120_5) : Int) := of_decide_eq_true (by first | with_reducible assumption | assumption)
                          have q129 : (rd l0_2 x120_5) < (x9_4.length : Int) := of_decide_eq_true (by first | with_reducible assumption | assumption)
                          obtain ⟨ad129, e129, hx129_0⟩ := Kd.at_int (Kd.R_reads' HO_9.out).2.2 (rd l0_2 x120_5) p129 q129
                          cases e129
                          replace p129 := eq_true p129
                          replace q129 := eq_true q129
                          refine start_ (n := 10) (S := fun w' => w'.cell? ⟨gb117, 0, none⟩ = some (.int .i64 a0_0) ∧ w'.cell? ⟨gb117, 1, none⟩ = some (u118001) ∧ w'.cell? ⟨gb117, 2, none⟩ = some (u118002) ∧ w'.cell? (ad129.add ((rd l0_2 x120_5)).toNat) = some (.int .i64 (rd x9_4 (rd l0_2 x120_5)))) (ds := [7, 9]) q38_51 (by kernel_rfl) rfl rfl ⟨(blk_cell BK117.out 0).trans rfl, (blk_cell BK117.out 1).trans rfl, (blk_cell BK117.out 2).trans rfl, hx129_0⟩ (fun hHeld => ?_); refine with_tabW impl_TrimCircuit.tab30 impl_TrimCircuit.bits30 (fun HT_ HW_ => ?_)
                          generalize wr.drew = w105 at HO_9 HO_118001 HO_118002 BK101 BK102 BK117 HB hx129_0 hHeld ⊢
                          refine pure_ (i := 0) (N := some 124) (v := ?_) (a' := ?_) q38_52 rfl rfl (any_of HT_.out (by kernel_rfl)) (fun _ _ _ h => h) (Or.inl ⟨by rfl, ?_⟩) ?_ ?_; rotate_left
                          ·intro w'
                           go_simp; with_reducible rfl
                          rotate_left
                          ·simp only [Act.put, qa38, qb38, qc38, i64_w, i32_w]
                           rfl
                          refine pure_ (i := 2) (N := some 126) (v := ?_) (a' := ?_) q38_53 rfl rfl (any_of HT_.out (by kernel_rfl)) (fun _ _ _ h => h) (Or.inl ⟨by rfl, ?_⟩) ?_ ?_; rotate_left
                          ·intro w'
                           go_simp; with_reducible rfl
                          rotate_left
                          ·simp only [Act.put, qa38, qb38, qc38, i64_w, i32_w]
                           rfl
                          refine pure_ (i := 3) (N := some 127) (v := ?_) (a' := ?_) q38_54 rfl rfl (any_of HT_.out (by kernel_rfl)) (fun _ _ _ h => h) (Or.inl ⟨by rfl, ?_⟩) ?_ ?_; rotate_left
                          ·intro w'
                           go_simp; with_reducible rfl
                          rotate_left
                          ·simp only [Act.put, qa38, qb38, qc38, i64_w, i32_w]
                           rfl
                          refine pure_ (i := 4) (N := some 128) (v := ?_) (a' := ?_) q38_55 rfl rfl (any_of HT_.out (by kernel_rfl)) (fun _ _ _ h => h) (Or.inl ⟨by rfl, ?_⟩) ?_ ?_; rotate_left
                          ·intro w'
                           go_simp; with_reducible rfl
                          rotate_left
                          ·simp only [Act.put, qa38, qb38, qc38, i64_w, i32_w]
                           rfl
                          refine take_ (i := 1) (N := some 125) (v := ?_) (a' := ?_) q38_56 rfl rfl (take_ofW HT_.out HW_.out (by kernel_rfl)) (fun _ _ _ h => h) (Or.inl ⟨by rfl, ?_⟩) hHeld ?_ ?_; rotate_left
                          ·rintro w' ⟨s0, s1, s2, s3⟩
                           go_simp; with_reducible rfl
                          rotate_left
                          ·simp only [Act.put, qa38, qb38, qc38, i64_w, i32_w]
                           rfl
                          refine take_ (i := 5) (N := some 129) (v := ?_) (a' := ?_) q38_57 rfl rfl (take_ofW HT_.out HW_.out (by kernel_rfl)) (fun _ _ _ h => h) (Or.inl ⟨by rfl, ?_⟩) hHeld ?_ ?_; rotate_left
                          ·rintro w' ⟨s0, s1, s2, s3⟩
                           go_simp; with_reducible rfl
                          rotate_left
                          ·simp only [Act.put, qa38, qb38, qc38, i64_w, i32_w]
                           rfl
                          refine one_ (i := 6) (N := some 130) q38_58 rfl rfl (one_of HT_.out (by kernel_rfl)) (by decide) (fun K hK => ?_)
                          refine value_ (w1 := ?_) (v := ?_) (by rfl) rfl ?_ ?_
                          rotate_left 2
                          ·go_simp
                           constructor
                           ·rfl
                           ·rfl
                          refine hK.out _ _ ⟨(blk_cell (blk_alloc BK117.out _) 0).trans rfl, (blk_cell (blk_alloc BK117.out _) 1).trans rfl, (blk_cell (blk_alloc BK117.out _) 2).trans rfl, (World.cell?_alloc_lt _ _ _ (World.block_lt_of_cell? _ _ (hHeld.2.2.2))).trans (hHeld.2.2.2)⟩ (fun hHeld => ?_)
                          clear hK K
                          refine norm_ (a' := ?_) ?_ ?_; rotate_left
                          ·show Act.put _ (some 130) _ = _
                           simp only [Act.put, qa38, qb38, qc38, i64_w, i32_w]
                           rfl
                          refine last_ (i := 7) (N := some 131) q38_59 rfl rfl (one_of HT_.out (by kernel_rfl)) (by decide) (fun K hK => ?_)
                          refine Kd.R_append_step (Kd.int .i64) (w0 := w) w.heap.size (by rfl) (.tmp 125) (.tmp 130) 28 3 (.int .i64 0) 8 rfl Try.underlying28 info3 rfl (by decide) (by omega) u118002 x118002_5 (rd x9_4 (rd l0_2 x120_5)) [.int .i64 (rd x9_4 (rd l0_2 x120_5))] (fun k_ => some k_ ≠ (.slice (some ad129) x9_4.length co106 : Value).ownBlock) (fun _ => False) rfl rfl ?aP (fun _ hk => hk.elim) ?aF ?aO ?aB ?aS ?aL ?_
                          (case aP => exact rfl)
                          (case aB => exact (bB HB.out))
                          (case aF => exact (fun k_ hk => Kd.fresh' (Kd.R_lt (bC HO_9.out)) k_ hk))
                          (case aO => exact (bC HO_118002.out))
                          (case aS => exact (below_size (bB HB.out)))
                          (case aL => have := LMc104.out; omega)
                          intro v131 w107 ho hb hg hat
                          rw [← Ny130.out] at ho
                          have n0_ := am (Kd.R_after (ok := (fun _ => True)) (bC (Kd.R_mono HO_9.out (fun _ hk => ⟨trivial, hk⟩))) hg hat); have n1_ := am (Kd.R_over' (bC HO_118001.out) (Kd.R_typed (bC HO_118002.out)) (by decide) hg); have n2_ := am (blk_grown (g := gb101) (o := .cells #[.int .i64 a0_0, .slice A0_1 l0_1.length c0_1, .slice (some ad128) l0_2.length c0_2] 35 (0, 0)) (bA BK101.out) hg (Kd.R_ne HO_118002.out BK101.out (by decide))); have n3_ := am (blk_grown (g := gb102) (o := .cells #[.int .i64 0, .slice none 0 0, .slice none 0 0] 35 (0, 0)) (bA BK102.out) hg (Kd.R_ne HO_118002.out BK102.out (by decide))); have n4_ := am (blk_grown (g := gb117) (o := .cells #[.int .i64 a0_0, u118001, u118002] 35 (0, 0)) (bA BK117.out) hg (Kd.R_ne HO_118002.out BK117.out (by decide))); have n5_ := am (hb); have n6_ := am (ho); clear HO_9; clear HO_118001; clear BK101; clear BK102; clear BK117; clear HB; clear HO_118002; have HO_9 := n0_; have HO_118001 := n1_; have BK101 := n2_; have BK102 := n3_; have BK117 := n4_; have HB := n5_; have HO132 := n6_; clear n0_ n1_ n2_ n3_ n4_ n5_ n6_; clear ho hb hg hat
                          obtain ⟨Ao108, co108, eo108⟩ := Kd.R_slice HO132.out
                          (first | subst eo108 | (injection eo108 with f1_ f2_ f3_; have f4_ := f1_.symm; have f5_ := f3_.symm; clear f1_ f2_ f3_; subst f4_; subst f5_))
                          refine hK.out _ _ ?_
                          clear hK K
                          refine norm_ (a' := ?_) ?_ ?_; rotate_left
                          ·show Act.put _ (some 131) _ = _
                           simp only [Act.put, qa38, qb38, qc38, i64_w, i32_w]
                           rfl
                          refine pure_ (i := 8) (N := some 132) (v := ?_) (a' := ?_) q38_60 rfl rfl (any_of HT_.out (by kernel_rfl)) (fun _ _ _ h => h) (Or.inl ⟨by rfl, ?_⟩) ?_ ?_; rotate_left
                          ·intro w'
                           go_simp; with_reducible rfl
                          rotate_left
                          ·simp only [Act.put, qa38, qb38, qc38, i64_w, i32_w]
                           rfl
                          refine last_ (i := 9) (N := none) q38_61 rfl rfl (one_of HT_.out (by kernel_rfl)) (by decide) (fun K hK => ?_)
                          have hs109 : w107.cell? ⟨gb117, 2, none⟩ = some (u118002) := (blk_cell BK117.out 2).trans rfl
                          have hfs109 := blk_frozen BK117.out 2; have hns109_0 := NB101_117.out; have hns109_1 := NB102_117.out; have hms109_0 := NB117_101.out; have hms109_1 := NB117_102.out
                          refine skip_ (w1 := ?_) (by rfl) rfl ?_ ?_; rotate_left
                          ·go_simp
                           rfl
                          refine hK.out _ _ ?_
                          clear hK K
                          refine done_ (done_of HT_.out (by kernel_rfl)) ?_
                          try go_wp2
                          go_roundg k5
                          case measure => have := HK1.out; have := HK2.out; have := HK3.out; have := HK4.out; have := HK5.out; omega
                          case rel => exact ⟨(wrap64 (x120_5 + 1)), (y130), (.slice Ao108 y130.length co108), (by first | rfl | (simp; done) | (simp [*]; done)), H', ⟨by have := HK1.out; have := HK2.out; have := HK3.out; have := HK4.out; have := HK5.out; omega⟩, ⟨by (with_reducible repeat (first | apply Kd.R_alloc | apply Kd.R_drewN | apply Kd.R_drew)); exact Kd.R_mono (Kd.R_far (p := ⟨gb117, 2, none⟩) (Kd.R_types HO_9.out BK117.out (by decide)) (fun _ hk => hk.2) (.slice Ao108 y130.length co108)) (fun _ hk => hk.1.2)⟩, ⟨by (with_reducible repeat (first | apply Kd.R_alloc | apply Kd.R_drewN | apply Kd.R_drew)); exact Kd.R_mono (Kd.R_far (p := ⟨gb117, 2, none⟩) (Kd.R_types HO_118001.out BK117.out (by decide)) (fun _ hk => hk.2) (.slice Ao108 y130.length co108)) (fun _ hk => trivial)⟩, ⟨by (with_reducible repeat (first | apply Kd.R_alloc | apply Kd.R_drewN | apply Kd.R_drew)); exact Kd.R_mono (Kd.R_far (p := ⟨gb117, 2, none⟩) (Kd.R_types HO132.out BK117.out (by decide)) (fun _ hk => hk.2) (.slice Ao108 y130.length co108)) (fun _ hk => hk.1)⟩, ⟨by (with_reducible repeat (first | refine blk_drewN ?_ _ | refine blk_drew ?_ | refine blk_alloc ?_ _)); refine blk_far ?_ NB101_117.out _; (with_reducible repeat (first | refine blk_drewN ?_ _ | refine blk_drew ?_ | refine blk_alloc ?_ _)); exact BK101.out⟩, ⟨by (with_reducible repeat (first | refine blk_drewN ?_ _ | refine blk_drew ?_ | refine blk_alloc ?_ _)); refine blk_far ?_ NB102_117.out _; (with_reducible repeat (first | refine blk_drewN ?_ _ | refine blk_drew ?_ | refine blk_alloc ?_ _)); exact BK102.out⟩, ⟨by (with_reducible repeat (first | refine blk_drewN ?_ _ | refine blk_drew ?_ | refine blk_alloc ?_ _)); refine blk_put (cs := #[.int .i64 a0_0, u118001, u118002]) ?_ 2 _ rfl; (with_reducible repeat (first | refine blk_drewN ?_ _ | refine blk_drew ?_ | refine blk_alloc ?_ _)); exact BK117.out⟩, ⟨bB HB.out⟩⟩
                         ·rw [if_neg c104] at H
                          exact absurd H (by simp)
                        ·rw [if_neg c103] at H
                         exact absurd H (by simp)
                       ·rw [if_neg c102] at H
                        exact absurd H (by simp)
                      ·rw [if_neg c101] at H
                       exact absurd H (by simp)
                     ·rw [if_neg c100] at H
                      exact absurd H (by simp)
                    ·rw [if_neg c99] at H
                     have c99b0 : decide (x120_5 < (l0_2.length : Int)) = false := decide_eq_false c99
                     clear c99
                     simp only [Option.some.injEq, Prod.mk.injEq] at H
                     obtain ⟨rfl, rfl, rfl⟩ := H
                     have hnb110 := NB117_101.out; have hnc110 := NB101_117.out; have hnb111 := NB117_102.out; have hnc111 := NB102_117.out
                     have hcz112_0 : wr.cell? ⟨gb117, 0, none⟩ = some (.int .i64 a0_0) := (blk_cell BK117.out 0).trans rfl
                     have hcz112_1 : wr.cell? ⟨gb117, 1, none⟩ = some (u118001) := (blk_cell BK117.out 1).trans rfl
                     have hcz112_2 : wr.cell? ⟨gb117, 2, none⟩ = some (u118002) := (blk_cell BK117.out 2).trans rfl
                     have hfz112_0 := blk_frozen BK117.out 0; have hfz112_1 := blk_frozen BK117.out 1; have hfz112_2 := blk_frozen BK117.out 2; have hnb113 := NB102_101.out; have hnc113 := NB101_102.out
                     have hcz114_0 : wr.cell? ⟨gb102, 0, none⟩ = some (.int .i64 0) := (blk_cell BK102.out 0).trans rfl
                     have hcz114_1 : wr.cell? ⟨gb102, 1, none⟩ = some (.slice none 0 0) := (blk_cell BK102.out 1).trans rfl
                     have hcz114_2 : wr.cell? ⟨gb102, 2, none⟩ = some (.slice none 0 0) := (blk_cell BK102.out 2).trans rfl
                     have hfz114_0 := blk_frozen BK102.out 0; have hfz114_1 := blk_frozen BK102.out 1; have hfz114_2 := blk_frozen BK102.out 2
                     obtain ⟨Ao115, co115, eo115⟩ := Kd.R_slice HO_118001.out
                     subst eo115
                     obtain ⟨Ao116, co116, eo116⟩ := Kd.R_slice HO_118002.out
                     subst eo116
                     go_wp2
                     refine bodyPost_ret (results_cell_row rfl _ _ gb102 35 #[.int .i64 a0_0, .slice Ao115 x118001_4.length co115, .slice Ao116 x118002_5.length co116] (0, 0) _ rfl (by (with_reducible repeat (first | refine blk_drewN ?_ _ | refine blk_drew ?_ | refine blk_alloc ?_ _)); refine blk_put (cs := #[.int .i64 a0_0, .slice Ao115 x118001_4.length co115, .slice none 0 0]) ?_ 2 _ rfl; (with_reducible repeat (first | refine blk_drewN ?_ _ | refine blk_drew ?_ | refine blk_alloc ?_ _)); refine blk_put (cs := #[.int .i64 a0_0, .slice none 0 0, .slice none 0 0]) ?_ 1 _ rfl; (with_reducible repeat (first | refine blk_drewN ?_ _ | refine blk_drew ?_ | refine blk_alloc ?_ _)); refine blk_put (cs := #[.int .i64 0, .slice none 0 0, .slice none 0 0]) ?_ 0 _ rfl; (with_reducible repeat (first | refine blk_drewN ?_ _ | refine blk_drew ?_ | refine blk_alloc ?_ _)); exact BK102.out) Try.underlying35 rfl (by kernel_rfl)) rfl ?_
                     exact ⟨_, _, by first | rfl | (simp [errW_none, errW_some] <;> rfl) | (simp only [← hji4]; first | rfl | (simp [errW_none, errW_some] <;> rfl)) | (simp [*, errW_none, errW_some] <;> rfl), by (with_reducible repeat (first | apply Kd.R_alloc | apply Kd.R_drewN | apply Kd.R_drew)); exact Kd.R_mono (Kd.R_far (p := ⟨gb102, 2, none⟩) (Kd.R_far (p := ⟨gb102, 1, none⟩) (Kd.R_far (p := ⟨gb102, 0, none⟩) (Kd.R_types HO_118001.out BK102.out (by decide)) (fun _ hk => hk.2) (.int .i64 a0_0)) (fun _ hk => hk.2) (.slice Ao115 x118001_4.length co115)) (fun _ hk => hk.2) (.slice Ao116 x118002_5.length co116)) (fun _ hk => trivial), by (with_reducible repeat (first | apply Kd.R_alloc | apply Kd.R_drewN | apply Kd.R_drew)); exact Kd.R_mono (Kd.R_far (p := ⟨gb102, 2, none⟩) (Kd.R_far (p := ⟨gb102, 1, none⟩) (Kd.R_far (p := ⟨gb102, 0, none⟩) (Kd.R_types HO_118002.out BK102.out (by decide)) (fun _ hk => hk.2) (.int .i64 a0_0)) (fun _ hk => hk.2) (.slice Ao115 x118001_4.length co115)) (fun _ hk => hk.2) (.slice Ao116 x118002_5.length co116)) (fun _ hk => trivial), bB HB.out⟩
           ·rw [if_neg c46] at H
            exact absurd H (by simp)
          ·rw [if_neg c45] at H
           exact absurd H (by simp)
   ·rw [if_neg c6] at H
    exact absurd H (by simp)
  ·rw [if_neg c5] at H
   exact absurd H (by simp)
 ·replace c3 := Bool.eq_false_iff.mpr c3
  subst c3
  have H1 : (some (0, ([] : List (S46)), ([] : List Int))) = some (r1, r2, r3) := by rw [if_neg (show ¬ (false = true) by decide)] at H; exact H
  clear H; have H := H1; clear H1
  simp only [Option.some.injEq, Prod.mk.injEq] at H
  obtain ⟨rfl, rfl, rfl⟩ := H
  go_enter Try.func38, Try.ntmps38
  go_wp2_with (first | ((with_reducible refine gate_dst (N := 1) rfl ?_); refine box_event ?hg (N := 1) ?hd (cs := #[.int .i64 a0_0, .slice A0_1 l0_1.length c0_1, .slice A0_2 l0_2.length c0_2]) (t := 35) ?hr ?_; (case hd => rfl); (case hg => rfl); (case hr => first | (go_simp; done) | (go_simp; rfl)); intro gb101 hg w117 hbox hb; have n0_ := am (below_step (bB HB.out) hb); have n1_ := am (hbox); have n2_ := am ((by rw [hg]; exact (below_size (bB HB.out)) : w.heap.size ≤ gb101)); have n3_ := am ((by rw [hg]; exact (below_size (bB HB.out)) : w.heap.size ≤ gb101)); clear HB; have HB := n0_; have BK101 := n1_; have GW101 := n2_; have GE101 := n3_; clear n0_ n1_ n2_ n3_; clear hb hbox hg) | ((with_reducible refine gate_dst (N := 2) rfl ?_); refine box_event ?hg (N := 2) ?hd (cs := #[.int .i64 0, .slice none 0 0, .slice none 0 0]) (t := 35) ?hr ?_; (case hd => rfl); (case hg => rfl); (case hr => first | (go_simp; done) | (go_simp; rfl)); intro gb102 hg w118 hbox hb; have n0_ := am (blk_below (bA BK101.out) hb); have n1_ := am (below_step (bB HB.out) hb); have n2_ := am (hbox); have n3_ := am ((by rw [hg]; exact (below_size (bB HB.out)) : w.heap.size ≤ gb102)); have n4_ := am ((by rw [hg]; exact (below_size (bB HB.out)) : w.heap.size ≤ gb102)); have n5_ := am ((by rw [hg]; exact Nat.ne_of_lt (blk_lt (g := gb101) (o := .cells #[.int .i64 a0_0, .slice A0_1 l0_1.length c0_1, .slice A0_2 l0_2.length c0_2] 35 (0, 0)) (bA BK101.out)) : gb101 ≠ gb102)); have n6_ := am ((by rw [hg]; exact Nat.ne_of_gt (blk_lt (g := gb101) (o := .cells #[.int .i64 a0_0, .slice A0_1 l0_1.length c0_1, .slice A0_2 l0_2.length c0_2] 35 (0, 0)) (bA BK101.out)) : gb102 ≠ gb101)); clear BK101; clear HB; have BK101 := n0_; have HB := n1_; have BK102 := n2_; have GW102 := n3_; have GE102 := n4_; have NB101_102 := n5_; have NB102_101 := n6_; clear n0_ n1_ n2_ n3_ n4_ n5_ n6_; clear hb hbox hg; have hnb119 := NB101_102.out; have hnc119 := NB102_101.out; have hcz120_0 : w118.cell? ⟨gb101, 0, none⟩ = some (.int .i64 a0_0) := (blk_cell BK101.out 0).trans rfl; have hcz120_1 : w118.cell? ⟨gb101, 1, none⟩ = some (.slice A0_1 l0_1.length c0_1) := (blk_cell BK101.out 1).trans rfl; have hcz120_2 : w118.cell? ⟨gb101, 2, none⟩ = some (.slice A0_2 l0_2.length c0_2) := (blk_cell BK101.out 2).trans rfl; have hfz120_0 := blk_frozen BK101.out 0; have hfz120_1 := blk_frozen BK101.out 1; have hfz120_2 := blk_frozen BK101.out 2) | ((with_reducible refine gate_callee (f := 20) rfl ?_); refine goesL_ (some 16) rfl rfl Try.func20 (by kernel_rfl) rfl #[.agg #[.int .i64 a0_0, .slice A0_1 l0_1.length c0_1, .slice A0_2 l0_2.length c0_2]] rfl bE ?_; (with_reducible refine (impl_IsCircuit.calls k a0_0 _ _ l0_1 _ _ l0_2 false _ ?side1 ?side2 ?side3 ?side4 A2.out).mono ?_); (case side1 => exact bD ((Kd.C_below HR0_1.out HB.out))); (case side2 => exact HC0_1.out); (case side3 => exact bD ((Kd.C_below HR0_2.out HB.out))); (case side4 => exact HC0_2.out); rintro e w121 ⟨rfl, hb⟩; refine ⟨_, rfl, ?_⟩; have n0_ := am (blk_below (bA BK101.out) hb); have n1_ := am (blk_below (bA BK102.out) hb); have n2_ := am (below_step (bB HB.out) hb); clear BK101; clear BK102; clear HB; have BK101 := n0_; have BK102 := n1_; have HB := n2_; clear n0_ n1_ n2_; (try clear hb); (try clear hb2); (try clear hk); (try clear hi); have hcz122_0 : w121.cell? ⟨gb102, 0, none⟩ = some (.int .i64 0) := (blk_cell BK102.out 0).trans rfl; have hcz122_1 : w121.cell? ⟨gb102, 1, none⟩ = some (.slice none 0 0) := (blk_cell BK102.out 1).trans rfl; have hcz122_2 : w121.cell? ⟨gb102, 2, none⟩ = some (.slice none 0 0) := (blk_cell BK102.out 2).trans rfl; have hfz122_0 := blk_frozen BK102.out 0; have hfz122_1 := blk_frozen BK102.out 1; have hfz122_2 := blk_frozen BK102.out 2))
  refine bodyPost_ret (results_cell_row rfl _ _ gb102 35 #[.int .i64 0, .slice none 0 0, .slice none 0 0] (0, 0) _ rfl (by (with_reducible repeat (first | refine blk_drewN ?_ _ | refine blk_drew ?_ | refine blk_alloc ?_ _)); refine blk_put (cs := #[.int .i64 0, .slice none 0 0, .slice none 0 0]) ?_ 2 _ rfl; (with_reducible repeat (first | refine blk_drewN ?_ _ | refine blk_drew ?_ | refine blk_alloc ?_ _)); refine blk_put (cs := #[.int .i64 0, .slice none 0 0, .slice none 0 0]) ?_ 1 _ rfl; (with_reducible repeat (first | refine blk_drewN ?_ _ | refine blk_drew ?_ | refine blk_alloc ?_ _)); refine blk_put (cs := #[.int .i64 0, .slice none 0 0, .slice none 0 0]) ?_ 0 _ rfl; (with_reducible repeat (first | refine blk_drewN ?_ _ | refine blk_drew ?_ | refine blk_alloc ?_ _)); exact BK102.out) Try.underlying35 rfl (by kernel_rfl)) rfl ?_
  exact ⟨_, _, by first | rfl | (simp [errW_none, errW_some] <;> rfl) | (simp [*, errW_none, errW_some] <;> rfl), by first | exact Kd.R_nil _ _ _ _ _ | exact Kd.N_nil _ _ _ _ _ | exact Kd.V_nil _ _ _ _ _ | exact Kd.Q_nil _ _ _ _ _ | exact Kd.S_nil _ _ _ _ _, by first | exact Kd.R_nil _ _ _ _ _ | exact Kd.N_nil _ _ _ _ _ | exact Kd.V_nil _ _ _ _ _ | exact Kd.Q_nil _ _ _ _ _ | exact Kd.S_nil _ _ _ _ _, bB HB.out⟩

end Go.Proofs.Ytaopbkbjfmfcdaa.P
