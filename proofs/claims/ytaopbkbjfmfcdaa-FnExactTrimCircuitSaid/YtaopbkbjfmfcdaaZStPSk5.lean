/- What functions of the program come to, each with the proof that it does, laid by a program of this session out of the translation; no condition is set on any claim. -/
import Derived.Test.YtaopbkbjfmfcdaaZStPSk0
import Derived.Test.YtaopbkbjfmfcdaaZStPSk4
namespace Go.Proofs.Ytaopbkbjfmfcdaa.P
open Go.RowKit Go.Proofs.YtaopbkbjfmfcdaaW.PrintWords Go.Proofs.YtaopbkbjfmfcdaaW.PrintLast Go.Proofs.YtaopbkbjfmfcdaaW.PrintMore
attribute [local go_sem] max2_int min2_int max_two min_two max_three min_three max_four min_four   -- for this text's walks alone
set_option linter.unusedVariables false
set_option linter.unusedSimpArgs false

theorem qa37 {α : Type} (l : List α) (i : Nat) (a : α) : l.toArray.setIfInBounds i a = (l.set i a).toArray := List.setIfInBounds_toArray ..
theorem qb37 {α : Type} (x a : α) (l : List α) : (x :: l).set 0 a = a :: l := rfl
theorem qc37 {α : Type} (x a : α) (l : List α) (n : Nat) : (x :: l).set (n + 1) a = x :: l.set n a := rfl
abbrev q37_0 : Array Bool := #[false, false, false, false, false, false, false, false, false, false, false, false, false, false, false, false, false, false, false]
abbrev q37_1 : Array Bool := #[true, false, false, false, false, false, false, false, false, false, false, false, false, false, false, false, false, false, false]
abbrev q37_2 : Array Bool := #[true, false, true, false, false, false, false, false, false, false, false, false, false, false, false, false, false, false, false]
abbrev q37_3 : Array Bool := #[true, false, true, false, true, false, false, false, false, false, false, false, false, false, false, false, false, false, false]
abbrev q37_4 : Array Bool := #[true, false, true, false, true, true, false, false, false, false, false, false, false, false, false, false, false, false, false]
abbrev q37_5 : Array Bool := #[true, false, true, false, true, true, false, false, false, true, false, false, false, false, false, false, false, false, false]
abbrev q37_6 : Array Bool := #[true, false, true, false, true, true, false, false, false, true, true, false, false, false, false, false, false, false, false]
abbrev q37_7 : Array Bool := #[true, true, true, false, true, true, false, false, false, true, true, false, false, false, false, false, false, false, false]
abbrev q37_8 : Array Bool := #[true, true, true, true, true, true, false, false, false, true, true, false, false, false, false, false, false, false, false]
abbrev q37_9 : Array Bool := #[true, true, true, true, true, true, true, false, false, true, true, false, false, false, false, false, false, false, false]
abbrev q37_10 : Array Bool := #[true, true, true, true, true, true, true, true, false, true, true, false, false, false, false, false, false, false, false]
abbrev q37_11 : Array Bool := #[true, true, true, true, true, true, true, true, true, true, true, false, false, false, false, false, false, false, false]
abbrev q37_12 : Array Bool := #[true, true, true, true, true, true, true, true, true, true, true, true, false, false, false, false, false, false, false]
abbrev q37_13 : Array Bool := #[true, true, true, true, true, true, true, true, true, true, true, true, true, false, false, false, false, false, false]
abbrev q37_14 : Array Bool := #[true, true, true, true, true, true, true, true, true, true, true, true, true, true, false, false, false, false, false]
abbrev q37_15 : Array Bool := #[true, true, true, true, true, true, true, true, true, true, true, true, true, true, true, false, false, false, false]
abbrev q37_16 : Array Bool := #[true, true, true, true, true, true, true, true, true, true, true, true, true, true, true, true, false, false, false]
abbrev q37_17 : Array Bool := #[true, true, true, true, true, true, true, true, true, true, true, true, true, true, true, true, true, false, false]
abbrev q37_18 : Array Bool := #[true, true, true, true, true, true, true, true, true, true, true, true, true, true, true, true, true, true, false]
abbrev q37_19 : Array Bool := #[true, true, true, true, true, true, true, true, true, true, true, true, true, true, true, true, true, true, true]
abbrev q37_20 : Array Bool := #[false, false, false, false, false, false, false, false, false, false]
abbrev q37_21 : Array Bool := #[true, false, false, false, false, false, false, false, false, false]
abbrev q37_22 : Array Bool := #[true, false, true, false, false, false, false, false, false, false]
abbrev q37_23 : Array Bool := #[true, false, true, true, false, false, false, false, false, false]
abbrev q37_24 : Array Bool := #[true, false, true, true, true, false, false, false, false, false]
abbrev q37_25 : Array Bool := #[true, true, true, true, true, false, false, false, false, false]
abbrev q37_26 : Array Bool := #[true, true, true, true, true, true, false, false, false, false]
abbrev q37_27 : Array Bool := #[true, true, true, true, true, true, true, false, false, false]
abbrev q37_28 : Array Bool := #[true, true, true, true, true, true, true, true, false, false]
abbrev q37_29 : Array Bool := #[true, true, true, true, true, true, true, true, true, false]
abbrev q37_30 : Array Bool := #[true, true, true, true, true, true, true, true, true, true]
/-! ### spec_TrimCircuit: function 37 -/
mutual
def spec_TrimCircuit.l0 : Nat → Int → List Bool → List Int → Int → Int → Int → List (S46) → List Int → Option (Int × (List (S46)) × List Int)
 | 0, _, _, _, _, _, _, _, _ => none
 | k + 1, x3, x4, x29, x30, x31, x102000, x102001, x102002 => if x31 < x30 then (if 0 ≤ x31 then (if x31 < (x29.length : Int) then (if 0 ≤ (rd x29 x31) then (if (rd x29 x31) < (x4.length : Int) then (spec_TrimCircuit.l0 k x3 (x4.set ((rd x29 x31) : Int).toNat true) x29 x30 (wrap64 (x31 + 1)) x102000 x102001 x102002) else (none)) else (none)) else (none)) else (none)) else (spec_TrimCircuit.l1 k x3 x4 (wrap64 ((x102001.length : Int) - 1)) x102000 x102001 x102002)
def spec_TrimCircuit.l1 : Nat → Int → List Bool → Int → Int → List (S46) → List Int → Option (Int × (List (S46)) × List Int)
 | 0, _, _, _, _, _, _ => none
 | k + 1, x3, x4, x7, x102000, x102001, x102002 => if x7 ≥ 0 then (if 0 ≤ (wrap64 (x3 + x7)) then (if (wrap64 (x3 + x7)) < (x4.length : Int) then (if rdOf false x4 (wrap64 (x3 + x7)) = true then (if 0 ≤ x7 then (if x7 < (x102001.length : Int) then (if 0 ≤ ((rd_T46 x102001 x7).f1) then (if ((rd_T46 x102001 x7).f1) < (x4.length : Int) then (if 0 ≤ ((rd_T46 x102001 x7).f2) then (if ((rd_T46 x102001 x7).f2) < (x4.length : Int) then (spec_TrimCircuit.l1 k x3 ((x4.set (((rd_T46 x102001 x7).f1) : Int).toNat true).set (((rd_T46 x102001 x7).f2) : Int).toNat true) (wrap64 (x7 - 1)) x102000 x102001 x102002) else (none)) else (none)) else (none)) else (none)) else (none)) else (none)) else (spec_TrimCircuit.l1 k x3 x4 (wrap64 (x7 - 1)) x102000 x102001 x102002)) else (none)) else (none)) else (spec_TrimCircuit.l2 k x3 x4 (([] : List Int)) 0 x102000 x102001 x102002 x102000)
def spec_TrimCircuit.l2 : Nat → Int → List Bool → List Int → Int → Int → List (S46) → List Int → Int → Option (Int × (List (S46)) × List Int)
 | 0, _, _, _, _, _, _, _, _ => none
 | k + 1, x3, x4, x8, x10, x102000, x102001, x102002, x118000 => if x10 < x3 then (if x8.length < 17592186044416 then (spec_TrimCircuit.l2 k x3 x4 (x8 ++ [x10]) (wrap64 (x10 + 1)) x102000 x102001 x102002 x118000) else (none)) else (spec_TrimCircuit.l3 k x3 x4 x8 x102001 (x102001.length : Int) 0 x102000 x102001 x102002 x118000 ([] : List (S46)))
def spec_TrimCircuit.l3 : Nat → Int → List Bool → List Int → List (S46) → Int → Int → Int → List (S46) → List Int → Int → List (S46) → Option (Int × (List (S46)) × List Int)
 | 0, _, _, _, _, _, _, _, _, _, _, _ => none
 | k + 1, x3, x4, x8, x83, x84, x85, x102000, x102001, x102002, x118000, x118001 => if x85 < x84 then (if 0 ≤ x85 then (if x85 < (x83.length : Int) then (if x8.length < 17592186044416 then ((some (x8 ++ [wrap64 (x3 + (x118001.length : Int))] : List Int)).bind fun y123 => (if 0 ≤ (wrap64 (x3 + x85)) then (if (wrap64 (x3 + x85)) < (x4.length : Int) then (if rdOf false x4 (wrap64 (x3 + x85)) = true then (if 0 ≤ ((rd_T46 x83 x85).f1) then (if ((rd_T46 x83 x85).f1) < (y123.length : Int) then (if 0 ≤ ((rd_T46 x83 x85).f2) then (if ((rd_T46 x83 x85).f2) < (y123.length : Int) then (if x118001.length < 1599289640401 then (spec_TrimCircuit.l3 k x3 x4 y123 x83 x84 (wrap64 (x85 + 1)) x102000 x102001 x102002 x118000 (x118001 ++ [(⟨(⟨(rd_T46 x83 x85).f0.f0, (rd_T46 x83 x85).f0.f1, (rd_T46 x83 x85).f0.f2, (rd_T46 x83 x85).f0.f3, (rd_T46 x83 x85).f0.f4, (rd_T46 x83 x85).f0.f5, (rd_T46 x83 x85).f0.f6, (rd_T46 x83 x85).f0.f7, (rd_T46 x83 x85).f0.f8⟩ : S23), rd y123 ((rd_T46 x83 x85).f1), rd y123 ((rd_T46 x83 x85).f2)⟩ : S46)])) else (none)) else (none)) else (none)) else (none)) else (none)) else (spec_TrimCircuit.l3 k x3 x4 y123 x83 x84 (wrap64 (x85 + 1)) x102000 x102001 x102002 x118000 x118001)) else (none)) else (none))) else (none)) else (none)) else (none)) else (spec_TrimCircuit.l4 k x8 x102002 (x102002.length : Int) 0 x118000 x118001 ([] : List Int))
def spec_TrimCircuit.l4 : Nat → List Int → List Int → Int → Int → Int → List (S46) → List Int → Option (Int × (List (S46)) × List Int)
 | 0, _, _, _, _, _, _, _ => none
 | k + 1, x8, x124, x125, x126, x118000, x118001, x118002 => if x126 < x125 then (if 0 ≤ x126 then (if x126 < (x124.length : Int) then (if 0 ≤ (rd x124 x126) then (if (rd x124 x126) < (x8.length : Int) then (if x118002.length < 17592186044416 then (spec_TrimCircuit.l4 k x8 x124 x125 (wrap64 (x126 + 1)) x118000 x118001 (x118002 ++ [rd x8 (rd x124 x126)])) else (none)) else (none)) else (none)) else (none)) else (none)) else (some (x118000, x118001, x118002))
end
def spec_TrimCircuit.f (k : Nat) (a0_0 : Int) (l0_1 : List (S46)) (l0_2 : List Int) : Option (Int × (List (S46)) × List Int) := (spec_IsCircuit.f k a0_0 l0_1 l0_2).bind fun t103 => (if t103 = true then (if 0 ≤ (wrap64 ((wrap64 (3 + a0_0)) + (l0_1.length : Int))) then (if (wrap64 ((wrap64 (3 + a0_0)) + (l0_1.length : Int)) : Int).toNat ≤ 281474976710656 then (spec_TrimCircuit.l0 k (wrap64 (3 + a0_0)) (List.replicate (wrap64 ((wrap64 (3 + a0_0)) + (l0_1.length : Int)) : Int).toNat false) l0_2 (l0_2.length : Int) 0 a0_0 l0_1 l0_2) else (none)) else (none)) else (some (0, ([] : List (S46)), ([] : List Int))))
def spec_TrimCircuit.T27 : Bool × List (List Nat × List Nat) := (true, [([], []), ([0], [0]), ([], []), ([2], [2]), ([], []), ([], []), ([5], [5]), ([4, 6], [4, 6]), ([7], [7]), ([], []), ([], []), ([10], [10]), ([9, 11], [9, 11]), ([12], [12]), ([3, 8, 13], [3, 8, 13]), ([14], [14]), ([1, 15], [1, 15]), ([0, 1, 2, 3, 4, 5, 6, 7, 8, 9, 10, 11, 12, 13, 14, 15, 16], []), ([17, 16, 16, 0, 1, 2, 3, 4, 5, 6, 7, 8, 9, 10, 11, 12, 13, 14, 15, 16], [16, 17])])
def spec_TrimCircuit.B27 : List Nat := [0, 1, 0, 4, 0, 0, 32, 112, 240, 0, 0, 1024, 3584, 7680, 16380, 32764, 65535, 131071, 262143]
theorem spec_TrimCircuit.tab27 : rtab .any (opsOf Try.f37 27) = spec_TrimCircuit.T27 := by kernel_rfl
theorem spec_TrimCircuit.bits27 : waitsOk spec_TrimCircuit.T27.2 spec_TrimCircuit.B27 = true := by kernel_rfl
def spec_TrimCircuit.T32 : Bool × List (List Nat × List Nat) := (true, [([], []), ([0], [0]), ([], []), ([], []), ([2, 3], [2, 3]), ([4], [4]), ([5], [5]), ([1, 6], [1, 6]), ([0, 1, 2, 3, 4, 5, 6, 7], []), ([8, 7, 7, 0, 1, 2, 3, 4, 5, 6, 7], [7, 8])])
def spec_TrimCircuit.B32 : List Nat := [0, 1, 0, 0, 12, 28, 60, 127, 255, 511]
theorem spec_TrimCircuit.tab32 : rtab .any (opsOf Try.f37 32) = spec_TrimCircuit.T32 := by kernel_rfl
theorem spec_TrimCircuit.bits32 : waitsOk spec_TrimCircuit.T32.2 spec_TrimCircuit.B32 = true := by kernel_rfl
set_option maxHeartbeats 8000000 in
set_option maxRecDepth 100000 in
theorem spec_TrimCircuit.calls (k : Nat) (a0_0 : Int) (A0_1 : Option Addr) (c0_1 : Nat) (l0_1 : List (S46)) (A0_2 : Option Addr) (c0_2 : Nat) (l0_2 : List Int) (r1 : Int) (r2 : List (S46)) (r3 : List Int) (w : World) (hr0_1 : Kd.C k46 w A0_1 l0_1.length l0_1) (hc0_1 : l0_1.length ≤ c0_1) (hr0_2 : Kd.C (Kd.int .i64) w A0_2 l0_2.length l0_2) (hc0_2 : l0_2.length ≤ c0_2) (h : spec_TrimCircuit.f k a0_0 l0_1 l0_2 = some (r1, r2, r3)) :
  Calls Try.prog 37 #[.agg #[.int .i64 a0_0, .slice A0_1 l0_1.length c0_1, .slice A0_2 l0_2.length c0_2]] w fun e w' => ∃ v1_ v2_ : Value, e = .returned (.agg #[.int .i64 r1, v1_, v2_]) ∧ Kd.R k46 46 w' w.heap.size (fun _ => True) v1_ r2 ∧ Kd.R (Kd.int .i64) 3 w' w.heap.size (fun _ => True) v2_ r3 ∧ Below w.heap.size w w' := by
 have hu35 := Try.underlying35; have hu46 := Try.underlying46; have hu23 := Try.underlying23; have HR0_1 := am hr0_1; have HC0_1 := am hc0_1; clear hr0_1 hc0_1; have HR0_2 := am hr0_2; have HC0_2 := am hc0_2; clear hr0_2 hc0_2; have HB := am (Below.refl w.heap.size w)
 have H : ((spec_IsCircuit.f k a0_0 l0_1 l0_2).bind fun t103 => (if t103 = true then (if 0 ≤ (wrap64 ((wrap64 (3 + a0_0)) + (l0_1.length : Int))) then (if (wrap64 ((wrap64 (3 + a0_0)) + (l0_1.length : Int)) : Int).toNat ≤ 281474976710656 then (spec_TrimCircuit.l0 k (wrap64 (3 + a0_0)) (List.replicate (wrap64 ((wrap64 (3 + a0_0)) + (l0_1.length : Int)) : Int).toNat false) l0_2 (l0_2.length : Int) 0 a0_0 l0_1 l0_2) else (none)) else (none)) else (some (0, ([] : List (S46)), ([] : List Int))))) = some (r1, r2, r3) := h
 clear h
 replace H := Option.bind_eq_some_iff.mp H
 obtain ⟨t103, A20, H⟩ := H
 replace H : (if t103 = true then (if 0 ≤ (wrap64 ((wrap64 (3 + a0_0)) + (l0_1.length : Int))) then (if (wrap64 ((wrap64 (3 + a0_0)) + (l0_1.length : Int)) : Int).toNat ≤ 281474976710656 then (spec_TrimCircuit.l0 k (wrap64 (3 + a0_0)) (List.replicate (wrap64 ((wrap64 (3 + a0_0)) + (l0_1.length : Int)) : Int).toNat false) l0_2 (l0_2.length : Int) 0 a0_0 l0_1 l0_2) else (none)) else (none)) else (some (0, ([] : List (S46)), ([] : List Int)))) = some (r1, r2, r3) := H
 have A2 := am A20; clear A20
 by_cases c3 : t103 = true
 ·subst c3
  have H1 : (if 0 ≤ (wrap64 ((wrap64 (3 + a0_0)) + (l0_1.length : Int))) then (if (wrap64 ((wrap64 (3 + a0_0)) + (l0_1.length : Int)) : Int).toNat ≤ 281474976710656 then (spec_TrimCircuit.l0 k (wrap64 (3 + a0_0)) (List.replicate (wrap64 ((wrap64 (3 + a0_0)) + (l0_1.length : Int)) : Int).toNat false) l0_2 (l0_2.length : Int) 0 a0_0 l0_1 l0_2) else (none)) else (none)) = some (r1, r2, r3) := by rw [if_pos rfl] at H; exact H
  clear H; have H := H1; clear H1
  obtain ⟨ji4, hji4⟩ : ∃ j_ : Int, (wrap64 ((wrap64 (3 + a0_0)) + (l0_1.length : Int))) = j_ := ⟨_, rfl⟩
  replace H : (if 0 ≤ (ji4) then (if (ji4 : Int).toNat ≤ 281474976710656 then (spec_TrimCircuit.l0 k (wrap64 (3 + a0_0)) (List.replicate (ji4 : Int).toNat false) l0_2 (l0_2.length : Int) 0 a0_0 l0_1 l0_2) else (none)) else (none)) = some (r1, r2, r3) := by first | (rw [hji4] at H; exact H) | (simp only [hji4] at H ⊢; exact H)
  (try rw [hji4] at A2)
  have hji4w : (IntKind.i64.wrap ((wrap64 (3 + a0_0)) + (l0_1.length : Int))) = ji4 := (i64_w _).trans hji4
  by_cases c5 : 0 ≤ (ji4)
  ·rw [if_pos c5] at H
   have c5b0 := eq_true c5
   have c5b1 : decide (0 ≤ (ji4)) = true := decide_eq_true c5
   clear c5
   by_cases c6 : (ji4 : Int).toNat ≤ 281474976710656
   ·rw [if_pos c6] at H
    have c6b0 := eq_true c6
    have c6b1 : decide ((ji4 : Int).toNat ≤ 281474976710656) = true := decide_eq_true c6
    clear c6
    obtain ⟨y104, hy104⟩ : ∃ y_ : List Bool, y_ = (List.replicate (ji4 : Int).toNat false) := ⟨_, rfl⟩
    replace H : (spec_TrimCircuit.l0 k (wrap64 (3 + a0_0)) y104 l0_2 (l0_2.length : Int) 0 a0_0 l0_1 l0_2) = some (r1, r2, r3) := by first | (rw [hy104]; with_reducible exact H) | (have H2_ := (Option.bind_some _ _).symm.trans H; rw [hy104]; with_reducible exact H2_) | (have H2_ := (Option.bind_some _ _).symm.trans H; with_reducible exact H2_) | with_reducible exact H | (rw [hy104]; exact H) | exact H
    have Ny104 := am hy104; clear hy104
    have H' := am H
    clear H
    go_enter Try.func37, Try.ntmps37
    go_wp2_with (first | ((with_reducible refine gate_dst (N := 1) rfl ?_); refine box_event ?hg (N := 1) ?hd (cs := #[.int .i64 a0_0, .slice A0_1 l0_1.length c0_1, .slice A0_2 l0_2.length c0_2]) (t := 35) ?hr ?_; (case hd => rfl); (case hg => rfl); (case hr => first | (go_simp; done) | (go_simp; rfl)); intro gb101 hg w7 hbox hb; have n0_ := am (below_step (bB HB.out) hb); have n1_ := am (hbox); have n2_ := am ((by rw [hg]; exact (below_size (bB HB.out)) : w.heap.size ≤ gb101)); have n3_ := am ((by rw [hg]; exact (below_size (bB HB.out)) : w.heap.size ≤ gb101)); clear HB; have HB := n0_; have BK101 := n1_; have GW101 := n2_; have GE101 := n3_; clear n0_ n1_ n2_ n3_; clear hb hbox hg) | ((with_reducible refine gate_dst (N := 2) rfl ?_); refine box_event ?hg (N := 2) ?hd (cs := #[.int .i64 0, .slice none 0 0, .slice none 0 0]) (t := 35) ?hr ?_; (case hd => rfl); (case hg => rfl); (case hr => first | (go_simp; done) | (go_simp; rfl)); intro gb102 hg w8 hbox hb; have n0_ := am (blk_below (bA BK101.out) hb); have n1_ := am (below_step (bB HB.out) hb); have n2_ := am (hbox); have n3_ := am ((by rw [hg]; exact (below_size (bB HB.out)) : w.heap.size ≤ gb102)); have n4_ := am ((by rw [hg]; exact (below_size (bB HB.out)) : w.heap.size ≤ gb102)); have n5_ := am ((by rw [hg]; exact Nat.ne_of_lt (blk_lt (g := gb101) (o := .cells #[.int .i64 a0_0, .slice A0_1 l0_1.length c0_1, .slice A0_2 l0_2.length c0_2] 35 (0, 0)) (bA BK101.out)) : gb101 ≠ gb102)); have n6_ := am ((by rw [hg]; exact Nat.ne_of_gt (blk_lt (g := gb101) (o := .cells #[.int .i64 a0_0, .slice A0_1 l0_1.length c0_1, .slice A0_2 l0_2.length c0_2] 35 (0, 0)) (bA BK101.out)) : gb102 ≠ gb101)); clear BK101; clear HB; have BK101 := n0_; have HB := n1_; have BK102 := n2_; have GW102 := n3_; have GE102 := n4_; have NB101_102 := n5_; have NB102_101 := n6_; clear n0_ n1_ n2_ n3_ n4_ n5_ n6_; clear hb hbox hg; have hnb9 := NB101_102.out; have hnc9 := NB102_101.out; have hcz10_0 : w8.cell? ⟨gb101, 0, none⟩ = some (.int .i64 a0_0) := (blk_cell BK101.out 0).trans rfl; have hcz10_1 : w8.cell? ⟨gb101, 1, none⟩ = some (.slice A0_1 l0_1.length c0_1) := (blk_cell BK101.out 1).trans rfl; have hcz10_2 : w8.cell? ⟨gb101, 2, none⟩ = some (.slice A0_2 l0_2.length c0_2) := (blk_cell BK101.out 2).trans rfl; have hfz10_0 := blk_frozen BK101.out 0; have hfz10_1 := blk_frozen BK101.out 1; have hfz10_2 := blk_frozen BK101.out 2) | ((with_reducible refine gate_callee (f := 18) rfl ?_); refine goesL_ (some 16) rfl rfl Try.func18 (by kernel_rfl) rfl #[.agg #[.int .i64 a0_0, .slice A0_1 l0_1.length c0_1, .slice A0_2 l0_2.length c0_2]] rfl bE ?_; (with_reducible refine (spec_IsCircuit.calls k a0_0 _ _ l0_1 _ _ l0_2 true _ ?side1 ?side2 ?side3 ?side4 A2.out).mono ?_); (case side1 => exact bD ((Kd.C_below HR0_1.out HB.out))); (case side2 => exact HC0_1.out); (case side3 => exact bD ((Kd.C_below HR0_2.out HB.out))); (case side4 => exact HC0_2.out); rintro e w11 ⟨rfl, hb⟩; refine ⟨_, rfl, ?_⟩; have n0_ := am (blk_below (bA BK101.out) hb); have n1_ := am (blk_below (bA BK102.out) hb); have n2_ := am (below_step (bB HB.out) hb); clear BK101; clear BK102; clear HB; have BK101 := n0_; have BK102 := n1_; have HB := n2_; clear n0_ n1_ n2_; (try clear hb); (try clear hb2); (try clear hk); (try clear hi); have hcz12_0 : w11.cell? ⟨gb101, 0, none⟩ = some (.int .i64 a0_0) := (blk_cell BK101.out 0).trans rfl; have hcz12_1 : w11.cell? ⟨gb101, 1, none⟩ = some (.slice A0_1 l0_1.length c0_1) := (blk_cell BK101.out 1).trans rfl; have hcz12_2 : w11.cell? ⟨gb101, 2, none⟩ = some (.slice A0_2 l0_2.length c0_2) := (blk_cell BK101.out 2).trans rfl; have hfz12_0 := blk_frozen BK101.out 0; have hfz12_1 := blk_frozen BK101.out 1; have hfz12_2 := blk_frozen BK101.out 2) | ((with_reducible refine gate_dst (N := 27) rfl ?_); refine Kd.R_make Kd.bool _ 4 rfl (N := 27) rfl 77 _ _ rfl ji4 rfl rfl Try.underlying77 (.bool false) 1 info4 rfl (by decide) (by omega) false (ok := fun _ => True) (okp := fun _ => True) rfl (fun _ hk => hk) trivial (of_decide_eq_true (by first | with_reducible assumption | assumption)) (Nat.le_trans (Nat.mul_le_mul_right _ (of_decide_eq_true (by first | with_reducible assumption | assumption) : ji4.toNat ≤ 281474976710656)) (by omega)) (Below.refl _ _) (Nat.le_refl _) ?_; intro v105 w13 ho14 hb hg_ hnew_; clear hg_ hnew_; (first | rw [← Ny104.out] at ho14 | (simp only [Int.reduceToNat] at ho14; rw [← Ny104.out] at ho14)); have n0_ := am (Kd.R_lower ho14 (below_size (bB HB.out))); have n1_ := am (blk_below (bA BK101.out) hb); have n2_ := am (blk_below (bA BK102.out) hb); have n3_ := am (below_step (bB HB.out) hb); clear BK101; clear BK102; clear HB; have HO106 := n0_; have BK101 := n1_; have BK102 := n2_; have HB := n3_; clear n0_ n1_ n2_ n3_; clear hb ho14; have hcz15_0 : w13.cell? ⟨gb101, 0, none⟩ = some (.int .i64 a0_0) := (blk_cell BK101.out 0).trans rfl; have hcz15_1 : w13.cell? ⟨gb101, 1, none⟩ = some (.slice A0_1 l0_1.length c0_1) := (blk_cell BK101.out 1).trans rfl; have hcz15_2 : w13.cell? ⟨gb101, 2, none⟩ = some (.slice A0_2 l0_2.length c0_2) := (blk_cell BK101.out 2).trans rfl; have hfz15_0 := blk_frozen BK101.out 0; have hfz15_1 := blk_frozen BK101.out 1; have hfz15_2 := blk_frozen BK101.out 2))
    go_loopg [31] k (fun kq v31 w' => ∃ (x4_1 : List Bool) (x31_1 : Int), v31 = .int .i64 x31_1 ∧ Aside0 (spec_TrimCircuit.l0 kq (wrap64 (3 + a0_0)) x4_1 l0_2 (l0_2.length : Int) x31_1 a0_0 l0_1 l0_2 = some (r1, r2, r3)) ∧ Aside0 (kq ≤ k) ∧ Aside0 (Kd.R Kd.bool 4 w' w.heap.size (fun _ => True) v105 x4_1) ∧ Aside0 (w'.heap[gb101]? = some (.cells #[.int .i64 a0_0, (.slice A0_1 l0_1.length c0_1), (.slice A0_2 l0_2.length c0_2)] 35 (0, 0))) ∧ Aside0 (w'.heap[gb102]? = some (.cells #[.int .i64 0, (.slice none 0 0), (.slice none 0 0)] 35 (0, 0))) ∧ Aside0 (Below w.heap.size w w'))
    case atStart => exact ⟨(y104), (0), (by first | rfl | (simp; done) | (simp [*]; done)), H', ⟨Nat.le_refl _⟩, ⟨by (with_reducible repeat (first | apply Kd.R_alloc | apply Kd.R_drewN | apply Kd.R_drew)); exact HO106.out⟩, ⟨bA BK101.out⟩, ⟨bA BK102.out⟩, ⟨bB HB.out⟩⟩
    case round =>
     clear H'
     try clear c1
     try clear p2
     try clear c3
     try clear c5
     try clear c5b0
     try clear c5b1
     try clear c6
     try clear c6b0
     try clear c6b1
     try clear p6
     try clear c9
     try clear hcz10_0
     try clear hcz10_1
     try clear hcz10_2
     try clear hcz12_0
     try clear hcz12_1
     try clear hcz12_2
     try clear hcz15_0
     try clear hcz15_1
     try clear hcz15_2
     try clear hfz10_0
     try clear hfz10_1
     try clear hfz10_2
     try clear hfz12_0
     try clear hfz12_1
     try clear hfz12_2
     try clear hfz15_0
     try clear hfz15_1
     try clear hfz15_2
     obtain ⟨x4_1, x31_1, rfl, HA, HK1, HO_4, BK101, BK102, HB⟩ := hrel
     cases gk with
     | zero => exact absurd HA.out (by simp [spec_TrimCircuit.l0])
     | succ k1 =>
      have H := HA.out; clear HA
      simp only [spec_TrimCircuit.l0] at H
      by_cases c16 : x31_1 < (l0_2.length : Int)
      ·rw [if_pos c16] at H
       have c16b0 : decide (x31_1 < (l0_2.length : Int)) = true := decide_eq_true c16
       clear c16
       by_cases c17 : 0 ≤ x31_1
       ·rw [if_pos c17] at H
        have c17b0 : decide (0 ≤ x31_1) = true := decide_eq_true c17
        clear c17
        by_cases c18 : x31_1 < (l0_2.length : Int)
        ·rw [if_pos c18] at H
         have c18b0 : decide (x31_1 < (l0_2.length : Int)) = true := decide_eq_true c18
         clear c18
         by_cases c19 : 0 ≤ (rd l0_2 x31_1)
         ·rw [if_pos c19] at H
          have c19b0 : decide (0 ≤ (rd l0_2 x31_1)) = true := decide_eq_true c19
          clear c19
          by_cases c20 : (rd l0_2 x31_1) < (x4_1.length : Int)
          ·rw [if_pos c20] at H
           have c20b0 : decide ((rd l0_2 x31_1) < (x4_1.length : Int)) = true := decide_eq_true c20
           clear c20
           obtain ⟨y108, hy108⟩ : ∃ y_ : List Bool, y_ = (x4_1.set ((rd l0_2 x31_1) : Int).toNat true) := ⟨_, rfl⟩
           replace H : (spec_TrimCircuit.l0 k1 (wrap64 (3 + a0_0)) y108 l0_2 (l0_2.length : Int) (wrap64 (x31_1 + 1)) a0_0 l0_1 l0_2) = some (r1, r2, r3) := by first | (rw [hy108]; with_reducible exact H) | (have H2_ := (Option.bind_some _ _).symm.trans H; rw [hy108]; with_reducible exact H2_) | (have H2_ := (Option.bind_some _ _).symm.trans H; with_reducible exact H2_) | with_reducible exact H | (rw [hy108]; exact H) | exact H
           have Ny108 := am hy108; clear hy108
           have H' := am H
           clear H
           have p107 : 0 ≤ (x31_1 : Int) := of_decide_eq_true (by first | with_reducible assumption | assumption)
           have q107 : x31_1 < (l0_2.length : Int) := of_decide_eq_true (by first | with_reducible assumption | assumption)
           obtain ⟨ad107, e107, hx107_0⟩ := Kd.at_int HR0_2.out x31_1 p107 q107
           cases e107
           replace hx107_0 := (HB.out.cell (World.block_lt_of_cell? w _ hx107_0)).trans hx107_0
           replace p107 := eq_true p107
           replace q107 := eq_true q107
           have p21 : 0 ≤ ((rd l0_2 x31_1) : Int) := of_decide_eq_true (by first | with_reducible assumption | assumption)
           have q21 : ((rd l0_2 x31_1) : Int) < ((x4_1.length : Int) : Int) := of_decide_eq_true (by first | with_reducible assumption | assumption)
           obtain ⟨go21, co21, eo21, gb21, gl21, cl21, HG21⟩ := Kd.R_form HO_4.out (by omega)
           (first | cases eo21 | (injection eo21 with ea_ en_ ec_; (first | subst ea_ | (injection ea_ with ea_; subst ea_)); subst ec_; clear en_))
           have GB21 := am gb21; have GG21 := am HG21; clear gb21 gl21 HG21
           obtain ⟨hx21_0, hf21_0⟩ := Kd.R_celln false HO_4.out ((rd l0_2 x31_1) : Int) p21 q21
           replace p21 := eq_true p21
           replace q21 := eq_true q21
           have HP22 := Kd.R_putg HO_4.out ((rd l0_2 x31_1) : Int) true
           go_wp2_with (first | ((with_reducible refine gate_store (t := 4) (p := 37) rfl ?_); refine store_event (t := 4) (p := 37) (v := ?vo_w23) (w1 := (wr.setCell ⟨go21, ((rd l0_2 x31_1) : Int).toNat, none⟩ (.bool true))) ?hg ?ho ?hn ?hr ?_; (case ho => rfl); (case hg => rfl); (case hn => rfl); (case hr => first | (go_simp; done) | (go_simp; rfl)); intro w23 hw; have hg : wr.grownBy w23 (some go21) := (by rw [hw]; exact HP22.2); have hp_ : Kd.R Kd.bool 4 w23 w.heap.size (fun _ => True) (.slice (some ⟨go21, 0, none⟩) x4_1.length co21) y108 := (by rw [hw, Ny108.out]; exact HP22.1); clear HP22; have n0_ := am (hp_); have n1_ := am (blk_grown (g := gb101) (o := .cells #[.int .i64 a0_0, .slice A0_1 l0_1.length c0_1, .slice (some ad107) l0_2.length c0_2] 35 (0, 0)) (bA BK101.out) hg (Kd.R_ne HO_4.out BK101.out (by decide))); have n2_ := am (blk_grown (g := gb102) (o := .cells #[.int .i64 0, .slice none 0 0, .slice none 0 0] 35 (0, 0)) (bA BK102.out) hg (Kd.R_ne HO_4.out BK102.out (by decide))); have n3_ := am ((by rw [hw]; exact below_set (HB.out) GB21.out : Below w.heap.size w w23)); clear HO_4; clear BK101; clear BK102; clear HB; have HO_4 := n0_; have BK101 := n1_; have BK102 := n2_; have HB := n3_; clear n0_ n1_ n2_ n3_; clear hg hw hp_))
           go_roundg k1
           case measure => have := HK1.out; omega
           case rel => exact ⟨(y108), (wrap64 (x31_1 + 1)), (by first | rfl | (simp; done) | (simp [*]; done)), H', ⟨by have := HK1.out; omega⟩, ⟨by (with_reducible repeat (first | apply Kd.R_alloc | apply Kd.R_drewN | apply Kd.R_drew)); exact HO_4.out⟩, ⟨bA BK101.out⟩, ⟨bA BK102.out⟩, ⟨bB HB.out⟩⟩
          ·rw [if_neg c20] at H
           exact absurd H (by simp)
         ·rw [if_neg c19] at H
          exact absurd H (by simp)
        ·rw [if_neg c18] at H
         exact absurd H (by simp)
       ·rw [if_neg c17] at H
        exact absurd H (by simp)
      ·rw [if_neg c16] at H
       have c16b0 : decide (x31_1 < (l0_2.length : Int)) = false := decide_eq_false c16
       clear c16
       have H' := am H
       clear H; have hnb24 := NB101_102.out; have hnc24 := NB102_101.out
       have hcz25_0 : wr.cell? ⟨gb101, 0, none⟩ = some (.int .i64 a0_0) := (blk_cell BK101.out 0).trans rfl
       have hcz25_1 : wr.cell? ⟨gb101, 1, none⟩ = some (.slice A0_1 l0_1.length c0_1) := (blk_cell BK101.out 1).trans rfl
       have hcz25_2 : wr.cell? ⟨gb101, 2, none⟩ = some (.slice A0_2 l0_2.length c0_2) := (blk_cell BK101.out 2).trans rfl
       have hfz25_0 := blk_frozen BK101.out 0; have hfz25_1 := blk_frozen BK101.out 1; have hfz25_2 := blk_frozen BK101.out 2
       go_wp2
       go_loopg [7] k1 (fun kq v7 w' => ∃ (x4_2 : List Bool) (x7_2 : Int), v7 = .int .i64 x7_2 ∧ Aside0 (spec_TrimCircuit.l1 kq (wrap64 (3 + a0_0)) x4_2 x7_2 a0_0 l0_1 l0_2 = some (r1, r2, r3)) ∧ Aside0 (kq ≤ k1) ∧ Aside0 (Kd.R Kd.bool 4 w' w.heap.size (fun _ => True) v105 x4_2) ∧ Aside0 (w'.heap[gb101]? = some (.cells #[.int .i64 a0_0, (.slice A0_1 l0_1.length c0_1), (.slice A0_2 l0_2.length c0_2)] 35 (0, 0))) ∧ Aside0 (w'.heap[gb102]? = some (.cells #[.int .i64 0, (.slice none 0 0), (.slice none 0 0)] 35 (0, 0))) ∧ Aside0 (Below w.heap.size w w'))
       case atStart => exact ⟨(x4_1), (wrap64 ((l0_1.length : Int) - 1)), (by first | rfl | (simp; done) | (simp [*]; done)), H', ⟨Nat.le_refl _⟩, ⟨by (with_reducible repeat (first | apply Kd.R_alloc | apply Kd.R_drewN | apply Kd.R_drew)); exact HO_4.out⟩, ⟨bA BK101.out⟩, ⟨bA BK102.out⟩, ⟨bB HB.out⟩⟩
       case round =>
        clear H'
        try clear c1
        try clear p1
        try clear q1
        try clear hx1
        try clear c2
        try clear p2
        try clear q2
        try clear hx2
        try clear hf2
        try clear c3
        try clear c5
        try clear c5b0
        try clear c5b1
        try clear c6
        try clear c6b0
        try clear c6b1
        try clear p6
        try clear c9
        try clear p10
        try clear q10
        try clear hx10
        try clear c16
        try clear c16b0
        try clear c17
        try clear c17b0
        try clear c18
        try clear c18b0
        try clear c19
        try clear c19b0
        try clear c20
        try clear c20b0
        try clear p21
        try clear q21
        try clear hx21
        try clear hf21
        try clear c24
        try clear hcz10_0
        try clear hcz10_1
        try clear hcz10_2
        try clear hcz12_0
        try clear hcz12_1
        try clear hcz12_2
        try clear hcz15_0
        try clear hcz15_1
        try clear hcz15_2
        try clear hcz25_0
        try clear hcz25_1
        try clear hcz25_2
        try clear hfz10_0
        try clear hfz10_1
        try clear hfz10_2
        try clear hfz12_0
        try clear hfz12_1
        try clear hfz12_2
        try clear hfz15_0
        try clear hfz15_1
        try clear hfz15_2
        try clear hfz25_0
        try clear hfz25_1
        try clear hfz25_2
        try clear hx107_0
        try clear hx21_0
        try clear p107
        try clear p2
        try clear p21
        try clear p6
        try clear q107
        try clear q21
        obtain ⟨x4_2, x7_2, rfl, HA, HK2, HO_4, BK101, BK102, HB⟩ := hrel
        cases gk with
        | zero => exact absurd HA.out (by simp [spec_TrimCircuit.l1])
        | succ k2 =>
         have H := HA.out; clear HA
         simp only [spec_TrimCircuit.l1] at H
         by_cases c26 : x7_2 ≥ 0
         ·rw [if_pos c26] at H
          have c26b0 : decide (0 ≤ x7_2) = true := decide_eq_true c26
          clear c26
          obtain ⟨ji27, hji27⟩ : ∃ j_ : Int, (wrap64 ((wrap64 (3 + a0_0)) + x7_2)) = j_ := ⟨_, rfl⟩
          replace H : (if 0 ≤ (ji27) then (if (ji27) < (x4_2.length : Int) then (if rdOf false x4_2 (ji27) = true then (if 0 ≤ x7_2 then (if x7_2 < (l0_1.length : Int) then (if 0 ≤ ((rd_T46 l0_1 x7_2).f1) then (if ((rd_T46 l0_1 x7_2).f1) < (x4_2.length : Int) then (if 0 ≤ ((rd_T46 l0_1 x7_2).f2) then (if ((rd_T46 l0_1 x7_2).f2) < (x4_2.length : Int) then (spec_TrimCircuit.l1 k2 (wrap64 (3 + a0_0)) ((x4_2.set (((rd_T46 l0_1 x7_2).f1) : Int).toNat true).set (((rd_T46 l0_1 x7_2).f2) : Int).toNat true) (wrap64 (x7_2 - 1)) a0_0 l0_1 l0_2) else (none)) else (none)) else (none)) else (none)) else (none)) else (none)) else (spec_TrimCircuit.l1 k2 (wrap64 (3 + a0_0)) x4_2 (wrap64 (x7_2 - 1)) a0_0 l0_1 l0_2)) else (none)) else (none)) = some (r1, r2, r3) := by first | (rw [hji27] at H; exact H) | (simp only [hji27] at H ⊢; exact H)
          have hji27w : (IntKind.i64.wrap ((wrap64 (3 + a0_0)) + x7_2)) = ji27 := (i64_w _).trans hji27
          by_cases c28 : 0 ≤ (ji27)
          ·rw [if_pos c28] at H
           have c28b0 : decide (0 ≤ (ji27)) = true := decide_eq_true c28
           clear c28
           by_cases c29 : (ji27) < (x4_2.length : Int)
           ·rw [if_pos c29] at H
            have c29b0 : decide ((ji27) < (x4_2.length : Int)) = true := decide_eq_true c29
            clear c29
            obtain ⟨bq30, hbq30⟩ : ∃ b_ : Bool, b_ = (rdOf false x4_2 (ji27)) := ⟨_, rfl⟩
            replace H : (if bq30 = true then (if 0 ≤ x7_2 then (if x7_2 < (l0_1.length : Int) then (if 0 ≤ ((rd_T46 l0_1 x7_2).f1) then (if ((rd_T46 l0_1 x7_2).f1) < (x4_2.length : Int) then (if 0 ≤ ((rd_T46 l0_1 x7_2).f2) then (if ((rd_T46 l0_1 x7_2).f2) < (x4_2.length : Int) then (spec_TrimCircuit.l1 k2 (wrap64 (3 + a0_0)) ((x4_2.set (((rd_T46 l0_1 x7_2).f1) : Int).toNat true).set (((rd_T46 l0_1 x7_2).f2) : Int).toNat true) (wrap64 (x7_2 - 1)) a0_0 l0_1 l0_2) else (none)) else (none)) else (none)) else (none)) else (none)) else (none)) else (spec_TrimCircuit.l1 k2 (wrap64 (3 + a0_0)) x4_2 (wrap64 (x7_2 - 1)) a0_0 l0_1 l0_2)) = some (r1, r2, r3) := by rw [← hbq30] at H; exact H
            have Nbq30 := am hbq30; clear hbq30
            by_cases c31 : bq30 = true
            ·subst c31
             have H1 : (if 0 ≤ x7_2 then (if x7_2 < (l0_1.length : Int) then (if 0 ≤ ((rd_T46 l0_1 x7_2).f1) then (if ((rd_T46 l0_1 x7_2).f1) < (x4_2.length : Int) then (if 0 ≤ ((rd_T46 l0_1 x7_2).f2) then (if ((rd_T46 l0_1 x7_2).f2) < (x4_2.length : Int) then (spec_TrimCircuit.l1 k2 (wrap64 (3 + a0_0)) ((x4_2.set (((rd_T46 l0_1 x7_2).f1) : Int).toNat true).set (((rd_T46 l0_1 x7_2).f2) : Int).toNat true) (wrap64 (x7_2 - 1)) a0_0 l0_1 l0_2) else (none)) else (none)) else (none)) else (none)) else (none)) else (none)) = some (r1, r2, r3) := by rw [if_pos rfl] at H; exact H
             clear H; have H := H1; clear H1
             by_cases c32 : 0 ≤ x7_2
             ·rw [if_pos c32] at H
              have c32b0 : decide (0 ≤ x7_2) = true := decide_eq_true c32
              clear c32
              by_cases c33 : x7_2 < (l0_1.length : Int)
              ·rw [if_pos c33] at H
               have c33b0 : decide (x7_2 < (l0_1.length : Int)) = true := decide_eq_true c33
               clear c33
               by_cases c34 : 0 ≤ ((rd_T46 l0_1 x7_2).f1)
               ·rw [if_pos c34] at H
                have c34b0 : decide (0 ≤ ((rd_T46 l0_1 x7_2).f1)) = true := decide_eq_true c34
                clear c34
                by_cases c35 : ((rd_T46 l0_1 x7_2).f1) < (x4_2.length : Int)
                ·rw [if_pos c35] at H
                 have c35b0 : decide (((rd_T46 l0_1 x7_2).f1) < (x4_2.length : Int)) = true := decide_eq_true c35
                 clear c35
                 obtain ⟨y111, hy111⟩ : ∃ y_ : List Bool, y_ = (x4_2.set (((rd_T46 l0_1 x7_2).f1) : Int).toNat true) := ⟨_, rfl⟩
                 replace H : (if 0 ≤ ((rd_T46 l0_1 x7_2).f2) then (if ((rd_T46 l0_1 x7_2).f2) < (x4_2.length : Int) then (spec_TrimCircuit.l1 k2 (wrap64 (3 + a0_0)) (y111.set (((rd_T46 l0_1 x7_2).f2) : Int).toNat true) (wrap64 (x7_2 - 1)) a0_0 l0_1 l0_2) else (none)) else (none)) = some (r1, r2, r3) := by first | (rw [hy111]; with_reducible exact H) | (have H2_ := (Option.bind_some _ _).symm.trans H; rw [hy111]; with_reducible exact H2_) | (have H2_ := (Option.bind_some _ _).symm.trans H; with_reducible exact H2_) | with_reducible exact H | (rw [hy111]; exact H) | exact H
                 have Ny111 := am hy111; clear hy111
                 by_cases c37 : 0 ≤ ((rd_T46 l0_1 x7_2).f2)
                 ·rw [if_pos c37] at H
                  have c37b0 : decide (0 ≤ ((rd_T46 l0_1 x7_2).f2)) = true := decide_eq_true c37
                  clear c37
                  by_cases c38 : ((rd_T46 l0_1 x7_2).f2) < (x4_2.length : Int)
                  ·rw [if_pos c38] at H
                   have c38b0 : decide (((rd_T46 l0_1 x7_2).f2) < (x4_2.length : Int)) = true := decide_eq_true c38
                   clear c38
                   obtain ⟨y113, hy113⟩ : ∃ y_ : List Bool, y_ = (y111.set (((rd_T46 l0_1 x7_2).f2) : Int).toNat true) := ⟨_, rfl⟩
                   replace H : (spec_TrimCircuit.l1 k2 (wrap64 (3 + a0_0)) y113 (wrap64 (x7_2 - 1)) a0_0 l0_1 l0_2) = some (r1, r2, r3) := by first | (rw [hy113]; with_reducible exact H) | (have H2_ := (Option.bind_some _ _).symm.trans H; rw [hy113]; with_reducible exact H2_) | (have H2_ := (Option.bind_some _ _).symm.trans H; with_reducible exact H2_) | with_reducible exact H | (rw [hy113]; exact H) | exact H
                   have Ny113 := am hy113; clear hy113
                   have H' := am H
                   clear H
                   obtain ⟨Ao40, co40, eo40⟩ := Kd.R_slice HO_4.out
                   subst eo40
                   have p109 : 0 ≤ ((ji27) : Int) := of_decide_eq_true (by first | with_reducible assumption | assumption)
                   have q109 : (ji27) < (x4_2.length : Int) := of_decide_eq_true (by first | with_reducible assumption | assumption)
                   obtain ⟨ad109, e109, hx109_0⟩ := Kd.at_bool (Kd.R_reads' HO_4.out).2.2 (ji27) p109 q109
                   (try rw [← Nbq30.out] at hx109_0)
                   cases e109
                   replace p109 := eq_true p109
                   replace q109 := eq_true q109
                   have hnb41 := NB101_102.out; have hnc41 := NB102_101.out
                   have hcz42_0 : wr.cell? ⟨gb101, 0, none⟩ = some (.int .i64 a0_0) := (blk_cell BK101.out 0).trans rfl
                   have hcz42_1 : wr.cell? ⟨gb101, 1, none⟩ = some (.slice A0_1 l0_1.length c0_1) := (blk_cell BK101.out 1).trans rfl
                   have hcz42_2 : wr.cell? ⟨gb101, 2, none⟩ = some (.slice A0_2 l0_2.length c0_2) := (blk_cell BK101.out 2).trans rfl
                   have hfz42_0 := blk_frozen BK101.out 0; have hfz42_1 := blk_frozen BK101.out 1; have hfz42_2 := blk_frozen BK101.out 2
                   have p110 : 0 ≤ (x7_2 : Int) := of_decide_eq_true (by first | with_reducible assumption | assumption)
                   have q110 : x7_2 < (l0_1.length : Int) := of_decide_eq_true (by first | with_reducible assumption | assumption)
                   obtain ⟨ad110, e110, hx110_0, hx110_1, hx110_2, hx110_3, hx110_4, hx110_5, hx110_6, hx110_7, hx110_8, hx110_9, hx110_10⟩ := at_T46 HR0_1.out x7_2 p110 q110
                   cases e110
                   replace hx110_0 := (HB.out.cell (World.block_lt_of_cell? w _ hx110_0)).trans hx110_0
                   replace hx110_1 := (HB.out.cell (World.block_lt_of_cell? w _ hx110_1)).trans hx110_1
                   replace hx110_2 := (HB.out.cell (World.block_lt_of_cell? w _ hx110_2)).trans hx110_2
                   replace hx110_3 := (HB.out.cell (World.block_lt_of_cell? w _ hx110_3)).trans hx110_3
                   replace hx110_4 := (HB.out.cell (World.block_lt_of_cell? w _ hx110_4)).trans hx110_4
                   replace hx110_5 := (HB.out.cell (World.block_lt_of_cell? w _ hx110_5)).trans hx110_5
                   replace hx110_6 := (HB.out.cell (World.block_lt_of_cell? w _ hx110_6)).trans hx110_6
                   replace hx110_7 := (HB.out.cell (World.block_lt_of_cell? w _ hx110_7)).trans hx110_7
                   replace hx110_8 := (HB.out.cell (World.block_lt_of_cell? w _ hx110_8)).trans hx110_8
                   replace hx110_9 := (HB.out.cell (World.block_lt_of_cell? w _ hx110_9)).trans hx110_9
                   replace hx110_10 := (HB.out.cell (World.block_lt_of_cell? w _ hx110_10)).trans hx110_10
                   replace p110 := eq_true p110
                   replace q110 := eq_true q110
                   have p36 : 0 ≤ (((rd_T46 l0_1 x7_2).f1) : Int) := of_decide_eq_true (by first | with_reducible assumption | assumption)
                   have q36 : (((rd_T46 l0_1 x7_2).f1) : Int) < ((x4_2.length : Int) : Int) := of_decide_eq_true (by first | with_reducible assumption | assumption)
                   obtain ⟨go36, co36, eo36, gb36, gl36, cl36, HG36⟩ := Kd.R_form HO_4.out (by omega)
                   (first | cases eo36 | (injection eo36 with ea_ en_ ec_; (first | subst ea_ | (injection ea_ with ea_; subst ea_)); subst ec_; clear en_))
                   have GB36 := am gb36; have GG36 := am HG36; clear gb36 gl36 HG36
                   (first | simp only [add_plain] at hx109_0 | skip)
                   obtain ⟨hx36_0, hf36_0⟩ := Kd.R_celln false HO_4.out (((rd_T46 l0_1 x7_2).f1) : Int) p36 q36
                   replace p36 := eq_true p36
                   replace q36 := eq_true q36
                   have HP43 := Kd.R_putg HO_4.out (((rd_T46 l0_1 x7_2).f1) : Int) true
                   go_wp2_with (first | ((with_reducible refine gate_store (t := 4) (p := 60) rfl ?_); refine store_event (t := 4) (p := 60) (v := ?vo_w44) (w1 := (wr.setCell ⟨go36, (((rd_T46 l0_1 x7_2).f1) : Int).toNat, none⟩ (.bool true))) ?hg ?ho ?hn ?hr ?_; (case ho => rfl); (case hg => rfl); (case hn => rfl); (case hr => first | (go_simp; done) | (go_simp; rfl)); intro w44 hw; have hg : wr.grownBy w44 (some go36) := (by rw [hw]; exact HP43.2); have hp_ : Kd.R Kd.bool 4 w44 w.heap.size (fun _ => True) (.slice (some ⟨go36, 0, none⟩) x4_2.length co40) y111 := (by rw [hw, Ny111.out]; exact HP43.1); clear HP43; have n0_ := am (hp_); have n1_ := am (blk_grown (g := gb101) (o := .cells #[.int .i64 a0_0, .slice (some ad110) l0_1.length c0_1, .slice A0_2 l0_2.length c0_2] 35 (0, 0)) (bA BK101.out) hg (Kd.R_ne HO_4.out BK101.out (by decide))); have n2_ := am (blk_grown (g := gb102) (o := .cells #[.int .i64 0, .slice none 0 0, .slice none 0 0] 35 (0, 0)) (bA BK102.out) hg (Kd.R_ne HO_4.out BK102.out (by decide))); have n3_ := am ((by rw [hw]; exact below_set (HB.out) GB36.out : Below w.heap.size w w44)); clear HO_4; clear BK101; clear BK102; clear HB; have HO_4 := n0_; have BK101 := n1_; have BK102 := n2_; have HB := n3_; clear n0_ n1_ n2_ n3_; clear hg hw hp_; have hcz45_0 : w44.cell? ⟨gb101, 0, none⟩ = some (.int .i64 a0_0) := (blk_cell BK101.out 0).trans rfl; have hcz45_1 : w44.cell? ⟨gb101, 1, none⟩ = some (.slice (some ad110) l0_1.length c0_1) := (blk_cell BK101.out 1).trans rfl; have hcz45_2 : w44.cell? ⟨gb101, 2, none⟩ = some (.slice A0_2 l0_2.length c0_2) := (blk_cell BK101.out 2).trans rfl; have hfz45_0 := blk_frozen BK101.out 0; have hfz45_1 := blk_frozen BK101.out 1; have hfz45_2 := blk_frozen BK101.out 2; have p112 : 0 ≤ (x7_2 : Int) := of_decide_eq_true (by first | with_reducible assumption | assumption); have q112 : x7_2 < (l0_1.length : Int) := of_decide_eq_true (by first | with_reducible assumption | assumption); obtain ⟨ad112, e112, hx112_0, hx112_1, hx112_2, hx112_3, hx112_4, hx112_5, hx112_6, hx112_7, hx112_8, hx112_9, hx112_10⟩ := at_T46 HR0_1.out x7_2 p112 q112; obtain rfl : ad110 = ad112 := (by injection e112); replace hx112_0 := (HB.out.cell (World.block_lt_of_cell? w _ hx112_0)).trans hx112_0; replace hx112_1 := (HB.out.cell (World.block_lt_of_cell? w _ hx112_1)).trans hx112_1; replace hx112_2 := (HB.out.cell (World.block_lt_of_cell? w _ hx112_2)).trans hx112_2; replace hx112_3 := (HB.out.cell (World.block_lt_of_cell? w _ hx112_3)).trans hx112_3; replace hx112_4 := (HB.out.cell (World.block_lt_of_cell? w _ hx112_4)).trans hx112_4; replace hx112_5 := (HB.out.cell (World.block_lt_of_cell? w _ hx112_5)).trans hx112_5; replace hx112_6 := (HB.out.cell (World.block_lt_of_cell? w _ hx112_6)).trans hx112_6; replace hx112_7 := (HB.out.cell (World.block_lt_of_cell? w _ hx112_7)).trans hx112_7; replace hx112_8 := (HB.out.cell (World.block_lt_of_cell? w _ hx112_8)).trans hx112_8; replace hx112_9 := (HB.out.cell (World.block_lt_of_cell? w _ hx112_9)).trans hx112_9; replace hx112_10 := (HB.out.cell (World.block_lt_of_cell? w _ hx112_10)).trans hx112_10; replace p112 := eq_true p112; replace q112 := eq_true q112; have p39 : 0 ≤ (((rd_T46 l0_1 x7_2).f2) : Int) := of_decide_eq_true (by first | with_reducible assumption | assumption); have q39 : (((rd_T46 l0_1 x7_2).f2) : Int) < ((x4_2.length : Int) : Int) := of_decide_eq_true (by first | with_reducible assumption | assumption); obtain ⟨hx39_0, hf39_0⟩ := Kd.R_celln false HO_4.out (((rd_T46 l0_1 x7_2).f2) : Int) p39 q39; replace p39 := eq_true p39; replace q39 := eq_true q39; obtain ⟨hy46_, hz46_⟩ := Kd.R_celln false HO_4.out (((rd_T46 l0_1 x7_2).f2) : Int) (of_decide_eq_true (by first | with_reducible assumption | assumption)) (of_decide_eq_true (by first | with_reducible assumption | assumption)); have HP46 := Kd.R_putg HO_4.out (((rd_T46 l0_1 x7_2).f2) : Int) true) | ((with_reducible refine gate_store (t := 4) (p := 68) rfl ?_); refine store_event (t := 4) (p := 68) (v := ?vo_w47) (w1 := (w44.setCell ⟨go36, (((rd_T46 l0_1 x7_2).f2) : Int).toNat, none⟩ (.bool true))) ?hg ?ho ?hn ?hr ?_; (case ho => rfl); (case hg => rfl); (case hn => rfl); (case hr => first | (go_simp; done) | (go_simp; rfl)); intro w47 hw; have hg : w44.grownBy w47 (some go36) := (by rw [hw]; exact HP46.2); have hp_ : Kd.R Kd.bool 4 w47 w.heap.size (fun _ => True) (.slice (some ⟨go36, 0, none⟩) x4_2.length co40) y113 := (by rw [hw, Ny113.out]; exact HP46.1); clear HP46; have n0_ := am (hp_); have n1_ := am (blk_grown (g := gb101) (o := .cells #[.int .i64 a0_0, .slice (some ad110) l0_1.length c0_1, .slice A0_2 l0_2.length c0_2] 35 (0, 0)) (bA BK101.out) hg (Kd.R_ne HO_4.out BK101.out (by decide))); have n2_ := am (blk_grown (g := gb102) (o := .cells #[.int .i64 0, .slice none 0 0, .slice none 0 0] 35 (0, 0)) (bA BK102.out) hg (Kd.R_ne HO_4.out BK102.out (by decide))); have n3_ := am ((by rw [hw]; exact below_set (HB.out) GB36.out : Below w.heap.size w w47)); clear HO_4; clear BK101; clear BK102; clear HB; have HO_4 := n0_; have BK101 := n1_; have BK102 := n2_; have HB := n3_; clear n0_ n1_ n2_ n3_; clear hg hw hp_))
                   go_roundg k2
                   case measure => have := HK1.out; have := HK2.out; omega
                   case rel => exact ⟨(y113), (wrap64 (x7_2 - 1)), (by first | rfl | (simp; done) | (simp [*]; done)), H', ⟨by have := HK1.out; have := HK2.out; omega⟩, ⟨by (with_reducible repeat (first | apply Kd.R_alloc | apply Kd.R_drewN | apply Kd.R_drew)); exact HO_4.out⟩, ⟨bA BK101.out⟩, ⟨bA BK102.out⟩, ⟨bB HB.out⟩⟩
                  ·rw [if_neg c38] at H
                   exact absurd H (by simp)
                 ·rw [if_neg c37] at H
                  exact absurd H (by simp)
                ·rw [if_neg c35] at H
                 exact absurd H (by simp)
               ·rw [if_neg c34] at H
                exact absurd H (by simp)
              ·rw [if_neg c33] at H
               exact absurd H (by simp)
             ·rw [if_neg c32] at H
              exact absurd H (by simp)
            ·replace c31 := Bool.eq_false_iff.mpr c31
             subst c31
             have H1 : (spec_TrimCircuit.l1 k2 (wrap64 (3 + a0_0)) x4_2 (wrap64 (x7_2 - 1)) a0_0 l0_1 l0_2) = some (r1, r2, r3) := by rw [if_neg (show ¬ (false = true) by decide)] at H; exact H
             clear H; have H := H1; clear H1
             have H' := am H
             clear H
             obtain ⟨Ao48, co48, eo48⟩ := Kd.R_slice HO_4.out
             subst eo48
             have p109 : 0 ≤ ((ji27) : Int) := of_decide_eq_true (by first | with_reducible assumption | assumption)
             have q109 : (ji27) < (x4_2.length : Int) := of_decide_eq_true (by first | with_reducible assumption | assumption)
             obtain ⟨ad109, e109, hx109_0⟩ := Kd.at_bool (Kd.R_reads' HO_4.out).2.2 (ji27) p109 q109
             (try rw [← Nbq30.out] at hx109_0)
             cases e109
             replace p109 := eq_true p109
             replace q109 := eq_true q109
             go_wp2
             go_roundg k2
             case measure => have := HK1.out; have := HK2.out; omega
             case rel => exact ⟨(x4_2), (wrap64 (x7_2 - 1)), (by first | rfl | (simp; done) | (simp [*]; done)), H', ⟨by have := HK1.out; have := HK2.out; omega⟩, ⟨by (with_reducible repeat (first | apply Kd.R_alloc | apply Kd.R_drewN | apply Kd.R_drew)); exact HO_4.out⟩, ⟨bA BK101.out⟩, ⟨bA BK102.out⟩, ⟨bB HB.out⟩⟩
           ·rw [if_neg c29] at H
            exact absurd H (by simp)
          ·rw [if_neg c28] at H
           exact absurd H (by simp)
         ·rw [if_neg c26] at H
          have c26b0 : decide (0 ≤ x7_2) = false := decide_eq_false c26
          clear c26
          obtain ⟨y114, hy114⟩ : ∃ y_ : List Int, y_ = (([] : List Int)) := ⟨_, rfl⟩
          replace H : (spec_TrimCircuit.l2 k2 (wrap64 (3 + a0_0)) x4_2 y114 0 a0_0 l0_1 l0_2 a0_0) = some (r1, r2, r3) := by first | (rw [hy114]; with_reducible exact H) | (have H2_ := (Option.bind_some _ _).symm.trans H; rw [hy114]; with_reducible exact H2_) | (have H2_ := (Option.bind_some _ _).symm.trans H; with_reducible exact H2_) | with_reducible exact H | (rw [hy114]; exact H) | exact H
          have Ny114 := am hy114; clear hy114
          have H' := am H
          clear H
          go_wp2_with (first | ((with_reducible refine gate_dst (N := 69) rfl ?_); refine Kd.R_lit (Kd.int .i64) _ 3 ?hg (N := 69) ?hd (xs := ([] : List Int)) (inner := []) (ok := fun _ => True) (okp := fun _ => True) ?hr ?hp (fun _ hk => hk) trivial (Below.refl _ _) (Nat.le_refl _) (by simp) ?_; (case hd => rfl); (case hg => rfl); (case hr => first | (go_simp; done) | (go_simp; rfl)); (case hp => exact (Reps.none _ _)); intro v115 w49 ho50 hb hg_ hnew_; clear hg_ hnew_; (first | rw [← Ny114.out] at ho50 | (simp only [Int.reduceToNat] at ho50; rw [← Ny114.out] at ho50)); have n0_ := am (Kd.R_below (bC HO_4.out) hb); have n1_ := am (Kd.R_lower ho50 (below_size (bB HB.out))); have n2_ := am (blk_below (bA BK101.out) hb); have n3_ := am (blk_below (bA BK102.out) hb); have n4_ := am (below_step (bB HB.out) hb); clear HO_4; clear BK101; clear BK102; clear HB; have HO_4 := n0_; have HO116 := n1_; have BK101 := n2_; have BK102 := n3_; have HB := n4_; clear n0_ n1_ n2_ n3_ n4_; clear hb ho50; have hnb51 := NB101_102.out; have hnc51 := NB102_101.out; have hcz52_0 : w49.cell? ⟨gb101, 0, none⟩ = some (.int .i64 a0_0) := (blk_cell BK101.out 0).trans rfl; have hcz52_1 : w49.cell? ⟨gb101, 1, none⟩ = some (.slice A0_1 l0_1.length c0_1) := (blk_cell BK101.out 1).trans rfl; have hcz52_2 : w49.cell? ⟨gb101, 2, none⟩ = some (.slice A0_2 l0_2.length c0_2) := (blk_cell BK101.out 2).trans rfl; have hfz52_0 := blk_frozen BK101.out 0; have hfz52_1 := blk_frozen BK101.out 1; have hfz52_2 := blk_frozen BK101.out 2) | ((with_reducible refine gate_dst (N := 9) rfl ?_); refine box_event ?hg (N := 9) ?hd (cs := #[.int .i64 0, .slice none 0 0, .slice none 0 0]) (t := 35) ?hr ?_; (case hd => rfl); (case hg => rfl); (case hr => first | (go_simp; done) | (go_simp; rfl)); intro gb117 hg w53 hbox hb; have n0_ := am (Kd.R_below (bC HO_4.out) hb); have n1_ := am (Kd.R_below (bC HO116.out) hb); have n2_ := am (blk_below (bA BK101.out) hb); have n3_ := am (blk_below (bA BK102.out) hb); have n4_ := am (below_step (bB HB.out) hb); have n5_ := am (hbox); have n6_ := am ((by rw [hg]; exact (below_size (bB HB.out)) : w.heap.size ≤ gb117)); have n7_ := am ((by rw [hg]; exact (below_size (bB HB.out)) : w.heap.size ≤ gb117)); have n8_ := am ((by rw [hg]; exact Nat.ne_of_lt (blk_lt (g := gb101) (o := .cells #[.int .i64 a0_0, .slice A0_1 l0_1.length c0_1, .slice A0_2 l0_2.length c0_2] 35 (0, 0)) (bA BK101.out)) : gb101 ≠ gb117)); have n9_ := am ((by rw [hg]; exact Nat.ne_of_gt (blk_lt (g := gb101) (o := .cells #[.int .i64 a0_0, .slice A0_1 l0_1.length c0_1, .slice A0_2 l0_2.length c0_2] 35 (0, 0)) (bA BK101.out)) : gb117 ≠ gb101)); have n10_ := am ((by rw [hg]; exact Nat.ne_of_lt (blk_lt (g := gb102) (o := .cells #[.int .i64 0, .slice none 0 0, .slice none 0 0] 35 (0, 0)) (bA BK102.out)) : gb102 ≠ gb117)); have n11_ := am ((by rw [hg]; exact Nat.ne_of_gt (blk_lt (g := gb102) (o := .cells #[.int .i64 0, .slice none 0 0, .slice none 0 0] 35 (0, 0)) (bA BK102.out)) : gb117 ≠ gb102)); clear HO_4; clear HO116; clear BK101; clear BK102; clear HB; have HO_4 := n0_; have HO116 := n1_; have BK101 := n2_; have BK102 := n3_; have HB := n4_; have BK117 := n5_; have GW117 := n6_; have GE117 := n7_; have NB101_117 := n8_; have NB117_101 := n9_; have NB102_117 := n10_; have NB117_102 := n11_; clear n0_ n1_ n2_ n3_ n4_ n5_ n6_ n7_ n8_ n9_ n10_ n11_; clear hb hbox hg; have hnb54 := NB117_101.out; have hnc54 := NB101_117.out; have hnb55 := NB117_102.out; have hnc55 := NB102_117.out; have hcz56_0 : w53.cell? ⟨gb117, 0, none⟩ = some (.int .i64 0) := (blk_cell BK117.out 0).trans rfl; have hcz56_1 : w53.cell? ⟨gb117, 1, none⟩ = some (.slice none 0 0) := (blk_cell BK117.out 1).trans rfl; have hcz56_2 : w53.cell? ⟨gb117, 2, none⟩ = some (.slice none 0 0) := (blk_cell BK117.out 2).trans rfl; have hfz56_0 := blk_frozen BK117.out 0; have hfz56_1 := blk_frozen BK117.out 1; have hfz56_2 := blk_frozen BK117.out 2))
          go_loopg [8, 10] k2 (fun kq v8 v10 w' => ∃ (x8_3 : List Int) (x10_3 : Int), v10 = .int .i64 x10_3 ∧ Aside0 (spec_TrimCircuit.l2 kq (wrap64 (3 + a0_0)) x4_2 x8_3 x10_3 a0_0 l0_1 l0_2 a0_0 = some (r1, r2, r3)) ∧ Aside0 (kq ≤ k2) ∧ Aside0 (Kd.R Kd.bool 4 w' w.heap.size (fun _ => True) v105 x4_2) ∧ Aside0 (Kd.R (Kd.int .i64) 3 w' w.heap.size (fun _ => True) v8 x8_3) ∧ Aside0 (w'.heap[gb101]? = some (.cells #[.int .i64 a0_0, (.slice A0_1 l0_1.length c0_1), (.slice A0_2 l0_2.length c0_2)] 35 (0, 0))) ∧ Aside0 (w'.heap[gb102]? = some (.cells #[.int .i64 0, (.slice none 0 0), (.slice none 0 0)] 35 (0, 0))) ∧ Aside0 (w'.heap[gb117]? = some (.cells #[.int .i64 a0_0, (.slice none 0 0), (.slice none 0 0)] 35 (0, 0))) ∧ Aside0 (Below w.heap.size w w'))
          case atStart => exact ⟨(y114), (0), (by first | rfl | (simp; done) | (simp [*]; done)), H', ⟨Nat.le_refl _⟩, ⟨by (with_reducible repeat (first | apply Kd.R_alloc | apply Kd.R_drewN | apply Kd.R_drew)); exact Kd.R_mono (Kd.R_far (p := ⟨gb117, 2, none⟩) (Kd.R_far (p := ⟨gb117, 1, none⟩) (Kd.R_far (p := ⟨gb117, 0, none⟩) (Kd.R_types HO_4.out BK117.out (by decide)) (fun _ hk => hk.2) (.int .i64 a0_0)) (fun _ hk => hk.2) (.slice none 0 0)) (fun _ hk => hk.2) (.slice none 0 0)) (fun _ hk => trivial)⟩, ⟨by (with_reducible repeat (first | apply Kd.R_alloc | apply Kd.R_drewN | apply Kd.R_drew)); exact Kd.R_mono (Kd.R_far (p := ⟨gb117, 2, none⟩) (Kd.R_far (p := ⟨gb117, 1, none⟩) (Kd.R_far (p := ⟨gb117, 0, none⟩) (Kd.R_types HO116.out BK117.out (by decide)) (fun _ hk => hk.2) (.int .i64 a0_0)) (fun _ hk => hk.2) (.slice none 0 0)) (fun _ hk => hk.2) (.slice none 0 0)) (fun _ hk => trivial)⟩, ⟨by (with_reducible repeat (first | refine blk_drewN ?_ _ | refine blk_drew ?_ | refine blk_alloc ?_ _)); refine blk_far ?_ NB101_117.out _; (with_reducible repeat (first | refine blk_drewN ?_ _ | refine blk_drew ?_ | refine blk_alloc ?_ _)); refine blk_far ?_ NB101_117.out _; (with_reducible repeat (first | refine blk_drewN ?_ _ | refine blk_drew ?_ | refine blk_alloc ?_ _)); refine blk_far ?_ NB101_117.out _; (with_reducible repeat (first | refine blk_drewN ?_ _ | refine blk_drew ?_ | refine blk_alloc ?_ _)); exact BK101.out⟩, ⟨by (with_reducible repeat (first | refine blk_drewN ?_ _ | refine blk_drew ?_ | refine blk_alloc ?_ _)); refine blk_far ?_ NB102_117.out _; (with_reducible repeat (first | refine blk_drewN ?_ _ | refine blk_drew ?_ | refine blk_alloc ?_ _)); refine blk_far ?_ NB102_117.out _; (with_reducible repeat (first | refine blk_drewN ?_ _ | refine blk_drew ?_ | refine blk_alloc ?_ _)); refine blk_far ?_ NB102_117.out _; (with_reducible repeat (first | refine blk_drewN ?_ _ | refine blk_drew ?_ | refine blk_alloc ?_ _)); exact BK102.out⟩, ⟨by (with_reducible repeat (first | refine blk_drewN ?_ _ | refine blk_drew ?_ | refine blk_alloc ?_ _)); refine blk_put (cs := #[.int .i64 a0_0, .slice none 0 0, .slice none 0 0]) ?_ 2 _ rfl; (with_reducible repeat (first | refine blk_drewN ?_ _ | refine blk_drew ?_ | refine blk_alloc ?_ _)); refine blk_put (cs := #[.int .i64 a0_0, .slice none 0 0, .slice none 0 0]) ?_ 1 _ rfl; (with_reducible repeat (first | refine blk_drewN ?_ _ | refine blk_drew ?_ | refine blk_alloc ?_ _)); refine blk_put (cs := #[.int .i64 0, .slice none 0 0, .slice none 0 0]) ?_ 0 _ rfl; (with_reducible repeat (first | refine blk_drewN ?_ _ | refine blk_drew ?_ | refine blk_alloc ?_ _)); exact BK117.out⟩, ⟨bB HB.out⟩⟩
          case round =>
           clear H'
           try clear c1
           try clear p1
           try clear q1
           try clear hx1
           try clear c2
           try clear p2
           try clear q2
           try clear hx2
           try clear hf2
           try clear c3
           try clear p3
           try clear q3
           try clear hx3
           try clear hf3
           try clear c4
           try clear c5
           try clear c5b0
           try clear c5b1
           try clear c6
           try clear c6b0
           try clear c6b1
           try clear p6
           try clear c9
           try clear p10
           try clear q10
           try clear hx10
           try clear p11
           try clear q11
           try clear hx11
           try clear c16
           try clear c16b0
           try clear c17
           try clear c17b0
           try clear c18
           try clear c18b0
           try clear c19
           try clear c19b0
           try clear c20
           try clear c20b0
           try clear p21
           try clear q21
           try clear hx21
           try clear hf21
           try clear c24
           try clear c26
           try clear c26b0
           try clear c28
           try clear c28b0
           try clear c29
           try clear c29b0
           try clear q30
           try clear c31
           try clear c32
           try clear c32b0
           try clear c33
           try clear c33b0
           try clear c34
           try clear c34b0
           try clear c35
           try clear c35b0
           try clear p36
           try clear q36
           try clear hx36
           try clear hf36
           try clear c37
           try clear c37b0
           try clear c38
           try clear c38b0
           try clear p39
           try clear q39
           try clear hx39
           try clear hf39
           try clear c41
           try clear c51
           try clear c54
           try clear c55
           try clear hcz10_0
           try clear hcz10_1
           try clear hcz10_2
           try clear hcz12_0
           try clear hcz12_1
           try clear hcz12_2
           try clear hcz15_0
           try clear hcz15_1
           try clear hcz15_2
           try clear hcz25_0
           try clear hcz25_1
           try clear hcz25_2
           try clear hcz42_0
           try clear hcz42_1
           try clear hcz42_2
           try clear hcz45_0
           try clear hcz45_1
           try clear hcz45_2
           try clear hcz52_0
           try clear hcz52_1
           try clear hcz52_2
           try clear hcz56_0
           try clear hcz56_1
           try clear hcz56_2
           try clear hfz10_0
           try clear hfz10_1
           try clear hfz10_2
           try clear hfz12_0
           try clear hfz12_1
           try clear hfz12_2
           try clear hfz15_0
           try clear hfz15_1
           try clear hfz15_2
           try clear hfz25_0
           try clear hfz25_1
           try clear hfz25_2
           try clear hfz42_0
           try clear hfz42_1
           try clear hfz42_2
           try clear hfz45_0
           try clear hfz45_1
           try clear hfz45_2
           try clear hfz52_0
           try clear hfz52_1
           try clear hfz52_2
           try clear hfz56_0
           try clear hfz56_1
           try clear hfz56_2
           try clear hx107_0
           try clear hx109_0
           try clear hx110_0
           try clear hx110_1
           try clear hx110_10
           try clear hx110_2
           try clear hx110_3
           try clear hx110_4
           try clear hx110_5
           try clear hx110_6
           try clear hx110_7
           try clear hx110_8
           try clear hx110_9
           try clear hx112_0
           try clear hx112_1
           try clear hx112_10
           try clear hx112_2
           try clear hx112_3
           try clear hx112_4
           try clear hx112_5
           try clear hx112_6
           try clear hx112_7
           try clear hx112_8
           try clear hx112_9
           try clear hx21_0
           try clear hx36_0
           try clear hx39_0
           try clear p1
           try clear p10
           try clear p107
           try clear p109
           try clear p110
           try clear p112
           try clear p2
           try clear p21
           try clear p36
           try clear p39
           try clear p6
           try clear q1
           try clear q10
           try clear q107
           try clear q109
           try clear q110
           try clear q112
           try clear q2
           try clear q21
           try clear q36
           try clear q39
           obtain ⟨x8_3, x10_3, rfl, HA, HK3, HO_4, HO_8, BK101, BK102, BK117, HB⟩ := hrel
           cases gk with
           | zero => exact absurd HA.out (by simp [spec_TrimCircuit.l2])
           | succ k3 =>
            have H := HA.out; clear HA
            simp only [spec_TrimCircuit.l2] at H
            by_cases c57 : x10_3 < (wrap64 (3 + a0_0))
            ·rw [if_pos c57] at H
             have c57b0 : decide (x10_3 < (wrap64 (3 + a0_0))) = true := decide_eq_true c57
             clear c57
             by_cases c58 : x8_3.length < 17592186044416
             ·rw [if_pos c58] at H
              have LMc58 := am c58; clear c58
              obtain ⟨y118, hy118⟩ : ∃ y_ : List Int, y_ = (x8_3 ++ [x10_3]) := ⟨_, rfl⟩
              replace H : (spec_TrimCircuit.l2 k3 (wrap64 (3 + a0_0)) x4_2 y118 (wrap64 (x10_3 + 1)) a0_0 l0_1 l0_2 a0_0) = some (r1, r2, r3) := by first | (rw [hy118]; with_reducible exact H) | (have H2_ := (Option.bind_some _ _).symm.trans H; rw [hy118]; with_reducible exact H2_) | (have H2_ := (Option.bind_some _ _).symm.trans H; with_reducible exact H2_) | with_reducible exact H | (rw [hy118]; exact H) | exact H
              have Ny118 := am hy118; clear hy118
              have H' := am H
              clear H
              go_wp2_with (first | ((with_reducible refine gate_builtin (b := .append) (xs := #[.tmp 78, .tmp 80]) rfl ?_); at_builtin; refine Kd.R_append (Kd.int .i64) (w0 := w) w.heap.size rfl (.tmp 78) (.tmp 80) 28 3 (.int .i64 0) 8 rfl Try.underlying28 info3 rfl (by decide) (by omega) u8 x8_3 x10_3 [.int .i64 x10_3] (fun _ => True) (fun _ => False) rfl rfl ?aP (fun _ hk => hk.elim) ?aF ?aO ?aB ?aS ?aL ?_; (case aP => exact rfl); (case aB => exact (bB HB.out)); (case aF => exact (fun _ _ => trivial)); (case aO => exact (bC HO_8.out)); (case aS => exact (below_size (bB HB.out))); (case aL => have := LMc58.out; omega); intro v119 w59 ho hb hg hat; rw [← Ny118.out] at ho; have n0_ := am (Kd.R_over' (bC HO_4.out) (Kd.R_typed (bC HO_8.out)) (by decide) hg); have n1_ := am (blk_grown (g := gb101) (o := .cells #[.int .i64 a0_0, .slice A0_1 l0_1.length c0_1, .slice A0_2 l0_2.length c0_2] 35 (0, 0)) (bA BK101.out) hg (Kd.R_ne HO_8.out BK101.out (by decide))); have n2_ := am (blk_grown (g := gb102) (o := .cells #[.int .i64 0, .slice none 0 0, .slice none 0 0] 35 (0, 0)) (bA BK102.out) hg (Kd.R_ne HO_8.out BK102.out (by decide))); have n3_ := am (blk_grown (g := gb117) (o := .cells #[.int .i64 a0_0, .slice none 0 0, .slice none 0 0] 35 (0, 0)) (bA BK117.out) hg (Kd.R_ne HO_8.out BK117.out (by decide))); have n4_ := am (hb); have n5_ := am (ho); clear HO_4; clear BK101; clear BK102; clear BK117; clear HB; clear HO_8; have HO_4 := n0_; have BK101 := n1_; have BK102 := n2_; have BK117 := n3_; have HB := n4_; have HO120 := n5_; clear n0_ n1_ n2_ n3_ n4_ n5_; clear ho hb hg hat))
              go_roundg k3
              case measure => have := HK1.out; have := HK2.out; have := HK3.out; omega
              case rel => exact ⟨(y118), (wrap64 (x10_3 + 1)), (by first | rfl | (simp; done) | (simp [*]; done)), H', ⟨by have := HK1.out; have := HK2.out; have := HK3.out; omega⟩, ⟨by (with_reducible repeat (first | apply Kd.R_alloc | apply Kd.R_drewN | apply Kd.R_drew)); exact HO_4.out⟩, ⟨by (with_reducible repeat (first | apply Kd.R_alloc | apply Kd.R_drewN | apply Kd.R_drew)); exact HO120.out⟩, ⟨bA BK101.out⟩, ⟨bA BK102.out⟩, ⟨bA BK117.out⟩, ⟨bB HB.out⟩⟩
             ·rw [if_neg c58] at H
              exact absurd H (by simp)
            ·rw [if_neg c57] at H
             have c57b0 : decide (x10_3 < (wrap64 (3 + a0_0))) = false := decide_eq_false c57
             clear c57
             have H' := am H
             clear H; have hnb60 := NB101_102.out; have hnc60 := NB102_101.out; have hnb61 := NB101_117.out; have hnc61 := NB117_101.out
             have hcz62_0 : wr.cell? ⟨gb101, 0, none⟩ = some (.int .i64 a0_0) := (blk_cell BK101.out 0).trans rfl
             have hcz62_1 : wr.cell? ⟨gb101, 1, none⟩ = some (.slice A0_1 l0_1.length c0_1) := (blk_cell BK101.out 1).trans rfl
             have hcz62_2 : wr.cell? ⟨gb101, 2, none⟩ = some (.slice A0_2 l0_2.length c0_2) := (blk_cell BK101.out 2).trans rfl
             have hfz62_0 := blk_frozen BK101.out 0; have hfz62_1 := blk_frozen BK101.out 1; have hfz62_2 := blk_frozen BK101.out 2
             go_wp2
             go_loopg [8, 85] k3 (fun kq v8 v85 w' => ∃ (x8_4 : List Int) (x85_4 : Int) (x118001_4 : List (S46)) (u118001 : Value), v85 = .int .i64 x85_4 ∧ Aside0 (spec_TrimCircuit.l3 kq (wrap64 (3 + a0_0)) x4_2 x8_4 l0_1 (l0_1.length : Int) x85_4 a0_0 l0_1 l0_2 a0_0 x118001_4 = some (r1, r2, r3)) ∧ Aside0 (kq ≤ k3) ∧ Aside0 (Kd.R Kd.bool 4 w' w.heap.size (fun _ => True) v105 x4_2) ∧ Aside0 (Kd.R (Kd.int .i64) 3 w' w.heap.size (fun _ => True) v8 x8_4) ∧ Aside0 (Kd.R k46 46 w' w.heap.size (fun _ => True) u118001 x118001_4) ∧ Aside0 (w'.heap[gb101]? = some (.cells #[.int .i64 a0_0, (.slice A0_1 l0_1.length c0_1), (.slice A0_2 l0_2.length c0_2)] 35 (0, 0))) ∧ Aside0 (w'.heap[gb102]? = some (.cells #[.int .i64 0, (.slice none 0 0), (.slice none 0 0)] 35 (0, 0))) ∧ Aside0 (w'.heap[gb117]? = some (.cells #[.int .i64 a0_0, u118001, (.slice none 0 0)] 35 (0, 0))) ∧ Aside0 (Below w.heap.size w w'))
             case atStart => exact ⟨(x8_3), (0), (([] : List (S46))), (.slice none 0 0), (by first | rfl | (simp; done) | (simp [*]; done)), H', ⟨Nat.le_refl _⟩, ⟨by (with_reducible repeat (first | apply Kd.R_alloc | apply Kd.R_drewN | apply Kd.R_drew)); exact HO_4.out⟩, ⟨by (with_reducible repeat (first | apply Kd.R_alloc | apply Kd.R_drewN | apply Kd.R_drew)); exact HO_8.out⟩, ⟨by first | exact Kd.R_nil _ _ _ _ _ | exact Kd.N_nil _ _ _ _ _ | exact Kd.V_nil _ _ _ _ _ | exact Kd.Q_nil _ _ _ _ _ | exact Kd.S_nil _ _ _ _ _⟩, ⟨bA BK101.out⟩, ⟨bA BK102.out⟩, ⟨bA BK117.out⟩, ⟨bB HB.out⟩⟩
             case round =>
              clear H'
              try clear c1
              try clear p1
              try clear q1
              try clear hx1
              try clear c2
              try clear p2
              try clear q2
              try clear hx2
              try clear hf2
              try clear c3
              try clear p3
              try clear q3
              try clear hx3
              try clear hf3
              try clear c4
              try clear c5
              try clear c5b0
              try clear c5b1
              try clear c6
              try clear c6b0
              try clear c6b1
              try clear p6
              try clear c9
              try clear p10
              try clear q10
              try clear hx10
              try clear p11
              try clear q11
              try clear hx11
              try clear c16
              try clear c16b0
              try clear c17
              try clear c17b0
              try clear c18
              try clear c18b0
              try clear c19
              try clear c19b0
              try clear c20
              try clear c20b0
              try clear p21
              try clear q21
              try clear hx21
              try clear hf21
              try clear c24
              try clear c26
              try clear c26b0
              try clear c28
              try clear c28b0
              try clear c29
              try clear c29b0
              try clear q30
              try clear c31
              try clear c32
              try clear c32b0
              try clear c33
              try clear c33b0
              try clear c34
              try clear c34b0
              try clear c35
              try clear c35b0
              try clear p36
              try clear q36
              try clear hx36
              try clear hf36
              try clear c37
              try clear c37b0
              try clear c38
              try clear c38b0
              try clear p39
              try clear q39
              try clear hx39
              try clear hf39
              try clear c41
              try clear c51
              try clear c54
              try clear c55
              try clear c57
              try clear c57b0
              try clear c58
              try clear c60
              try clear c61
              try clear hcz10_0
              try clear hcz10_1
              try clear hcz10_2
              try clear hcz12_0
              try clear hcz12_1
              try clear hcz12_2
              try clear hcz15_0
              try clear hcz15_1
              try clear hcz15_2
              try clear hcz25_0
              try clear hcz25_1
              try clear hcz25_2
              try clear hcz42_0
              try clear hcz42_1
              try clear hcz42_2
              try clear hcz45_0
              try clear hcz45_1
              try clear hcz45_2
              try clear hcz52_0
              try clear hcz52_1
              try clear hcz52_2
              try clear hcz56_0
              try clear hcz56_1
              try clear hcz56_2
              try clear hcz62_0
              try clear hcz62_1
              try clear hcz62_2
              try clear hfz10_0
              try clear hfz10_1
              try clear hfz10_2
              try clear hfz12_0
              try clear hfz12_1
              try clear hfz12_2
              try clear hfz15_0
              try clear hfz15_1
              try clear hfz15_2
              try clear hfz25_0
              try clear hfz25_1
              try clear hfz25_2
              try clear hfz42_0
              try clear hfz42_1
              try clear hfz42_2
              try clear hfz45_0
              try clear hfz45_1
              try clear hfz45_2
              try clear hfz52_0
              try clear hfz52_1
              try clear hfz52_2
              try clear hfz56_0
              try clear hfz56_1
              try clear hfz56_2
              try clear hfz62_0
              try clear hfz62_1
              try clear hfz62_2
              try clear hx107_0
              try clear hx109_0
              try clear hx110_0
              try clear hx110_1
              try clear hx110_10
              try clear hx110_2
              try clear hx110_3
              try clear hx110_4
              try clear hx110_5
              try clear hx110_6
              try clear hx110_7
              try clear hx110_8
              try clear hx110_9
              try clear hx112_0
              try clear hx112_1
              try clear hx112_10
              try clear hx112_2
              try clear hx112_3
              try clear hx112_4
              try clear hx112_5
              try clear hx112_6
              try clear hx112_7
              try clear hx112_8
              try clear hx112_9
              try clear hx21_0
              try clear hx36_0
              try clear hx39_0
              try clear p1
              try clear p10
              try clear p107
              try clear p109
              try clear p11
              try clear p110
              try clear p112
              try clear p2
              try clear p21
              try clear p3
              try clear p36
              try clear p39
              try clear p6
              try clear q1
              try clear q10
              try clear q107
              try clear q109
              try clear q11
              try clear q110
              try clear q112
              try clear q2
              try clear q21
              try clear q3
              try clear q30
              try clear q36
              try clear q39
              obtain ⟨x8_4, x85_4, x118001_4, u118001, rfl, HA, HK4, HO_4, HO_8, HO_118001, BK101, BK102, BK117, HB⟩ := hrel
              cases gk with
              | zero => exact absurd HA.out (by simp [spec_TrimCircuit.l3])
              | succ k4 =>
               have H := HA.out; clear HA
               simp only [spec_TrimCircuit.l3] at H
               by_cases c63 : x85_4 < (l0_1.length : Int)
               ·rw [if_pos c63] at H
                have c63b0 : decide (x85_4 < (l0_1.length : Int)) = true := decide_eq_true c63
                clear c63
                by_cases c64 : 0 ≤ x85_4
                ·rw [if_pos c64] at H
                 have c64b0 : decide (0 ≤ x85_4) = true := decide_eq_true c64
                 clear c64
                 by_cases c65 : x85_4 < (l0_1.length : Int)
                 ·rw [if_pos c65] at H
                  have c65b0 : decide (x85_4 < (l0_1.length : Int)) = true := decide_eq_true c65
                  clear c65
                  by_cases c66 : x8_4.length < 17592186044416
                  ·rw [if_pos c66] at H
                   have LMc66 := am c66; clear c66
                   obtain ⟨y123, hy123⟩ : ∃ y_ : List Int, y_ = (x8_4 ++ [wrap64 ((wrap64 (3 + a0_0)) + (x118001_4.length : Int))]) := ⟨_, rfl⟩
                   replace H : (if 0 ≤ (wrap64 ((wrap64 (3 + a0_0)) + x85_4)) then (if (wrap64 ((wrap64 (3 + a0_0)) + x85_4)) < (x4_2.length : Int) then (if rdOf false x4_2 (wrap64 ((wrap64 (3 + a0_0)) + x85_4)) = true then (if 0 ≤ ((rd_T46 l0_1 x85_4).f1) then (if ((rd_T46 l0_1 x85_4).f1) < (y123.length : Int) then (if 0 ≤ ((rd_T46 l0_1 x85_4).f2) then (if ((rd_T46 l0_1 x85_4).f2) < (y123.length : Int) then (if x118001_4.length < 1599289640401 then (spec_TrimCircuit.l3 k4 (wrap64 (3 + a0_0)) x4_2 y123 l0_1 (l0_1.length : Int) (wrap64 (x85_4 + 1)) a0_0 l0_1 l0_2 a0_0 (x118001_4 ++ [(⟨(⟨(rd_T46 l0_1 x85_4).f0.f0, (rd_T46 l0_1 x85_4).f0.f1, (rd_T46 l0_1 x85_4).f0.f2, (rd_T46 l0_1 x85_4).f0.f3, (rd_T46 l0_1 x85_4).f0.f4, (rd_T46 l0_1 x85_4).f0.f5, (rd_T46 l0_1 x85_4).f0.f6, (rd_T46 l0_1 x85_4).f0.f7, (rd_T46 l0_1 x85_4).f0.f8⟩ : S23), rd y123 ((rd_T46 l0_1 x85_4).f1), rd y123 ((rd_T46 l0_1 x85_4).f2)⟩ : S46)])) else (none)) else (none)) else (none)) else (none)) else (none)) else (spec_TrimCircuit.l3 k4 (wrap64 (3 + a0_0)) x4_2 y123 l0_1 (l0_1.length : Int) (wrap64 (x85_4 + 1)) a0_0 l0_1 l0_2 a0_0 x118001_4)) else (none)) else (none)) = some (r1, r2, r3) := by first | (rw [hy123]; with_reducible exact H) | (have H2_ := (Option.bind_some _ _).symm.trans H; rw [hy123]; with_reducible exact H2_) | (have H2_ := (Option.bind_some _ _).symm.trans H; with_reducible exact H2_) | with_reducible exact H | (rw [hy123]; exact H) | exact H
                   have Ny123 := am hy123; clear hy123
                   obtain ⟨ji67, hji67⟩ : ∃ j_ : Int, (wrap64 ((wrap64 (3 + a0_0)) + x85_4)) = j_ := ⟨_, rfl⟩
                   replace H : (if 0 ≤ (ji67) then (if (ji67) < (x4_2.length : Int) then (if rdOf false x4_2 (ji67) = true then (if 0 ≤ ((rd_T46 l0_1 x85_4).f1) then (if ((rd_T46 l0_1 x85_4).f1) < (y123.length : Int) then (if 0 ≤ ((rd_T46 l0_1 x85_4).f2) then (if ((rd_T46 l0_1 x85_4).f2) < (y123.length : Int) then (if x118001_4.length < 1599289640401 then (spec_TrimCircuit.l3 k4 (wrap64 (3 + a0_0)) x4_2 y123 l0_1 (l0_1.length : Int) (wrap64 (x85_4 + 1)) a0_0 l0_1 l0_2 a0_0 (x118001_4 ++ [(⟨(⟨(rd_T46 l0_1 x85_4).f0.f0, (rd_T46 l0_1 x85_4).f0.f1, (rd_T46 l0_1 x85_4).f0.f2, (rd_T46 l0_1 x85_4).f0.f3, (rd_T46 l0_1 x85_4).f0.f4, (rd_T46 l0_1 x85_4).f0.f5, (rd_T46 l0_1 x85_4).f0.f6, (rd_T46 l0_1 x85_4).f0.f7, (rd_T46 l0_1 x85_4).f0.f8⟩ : S23), rd y123 ((rd_T46 l0_1 x85_4).f1), rd y123 ((rd_T46 l0_1 x85_4).f2)⟩ : S46)])) else (none)) else (none)) else (none)) else (none)) else (none)) else (spec_TrimCircuit.l3 k4 (wrap64 (3 + a0_0)) x4_2 y123 l0_1 (l0_1.length : Int) (wrap64 (x85_4 + 1)) a0_0 l0_1 l0_2 a0_0 x118001_4)) else (none)) else (none)) = some (r1, r2, r3) := by first | (rw [hji67] at H; exact H) | (simp only [hji67] at H ⊢; exact H)
                   have hji67w : (IntKind.i64.wrap ((wrap64 (3 + a0_0)) + x85_4)) = ji67 := (i64_w _).trans hji67
                   by_cases c68 : 0 ≤ (ji67)
                   ·rw [if_pos c68] at H
                    have c68b0 : decide (0 ≤ (ji67)) = true := decide_eq_true c68
                    clear c68
                    by_cases c69 : (ji67) < (x4_2.length : Int)
                    ·rw [if_pos c69] at H
                     have c69b0 : decide ((ji67) < (x4_2.length : Int)) = true := decide_eq_true c69
                     clear c69
                     obtain ⟨bq70, hbq70⟩ : ∃ b_ : Bool, b_ = (rdOf false x4_2 (ji67)) := ⟨_, rfl⟩
                     replace H : (if bq70 = true then (if 0 ≤ ((rd_T46 l0_1 x85_4).f1) then (if ((rd_T46 l0_1 x85_4).f1) < (y123.length : Int) then (if 0 ≤ ((rd_T46 l0_1 x85_4).f2) then (if ((rd_T46 l0_1 x85_4).f2) < (y123.length : Int) then (if x118001_4.length < 1599289640401 then (spec_TrimCircuit.l3 k4 (wrap64 (3 + a0_0)) x4_2 y123 l0_1 (l0_1.length : Int) (wrap64 (x85_4 + 1)) a0_0 l0_1 l0_2 a0_0 (x118001_4 ++ [(⟨(⟨(rd_T46 l0_1 x85_4).f0.f0, (rd_T46 l0_1 x85_4).f0.f1, (rd_T46 l0_1 x85_4).f0.f2, (rd_T46 l0_1 x85_4).f0.f3, (rd_T46 l0_1 x85_4).f0.f4, (rd_T46 l0_1 x85_4).f0.f5, (rd_T46 l0_1 x85_4).f0.f6, (rd_T46 l0_1 x85_4).f0.f7, (rd_T46 l0_1 x85_4).f0.f8⟩ : S23), rd y123 ((rd_T46 l0_1 x85_4).f1), rd y123 ((rd_T46 l0_1 x85_4).f2)⟩ : S46)])) else (none)) else (none)) else (none)) else (none)) else (none)) else (spec_TrimCircuit.l3 k4 (wrap64 (3 + a0_0)) x4_2 y123 l0_1 (l0_1.length : Int) (wrap64 (x85_4 + 1)) a0_0 l0_1 l0_2 a0_0 x118001_4)) = some (r1, r2, r3) := by rw [← hbq70] at H; exact H
                     have Nbq70 := am hbq70; clear hbq70
                     by_cases c71 : bq70 = true
                     ·subst c71
                      have H1 : (if 0 ≤ ((rd_T46 l0_1 x85_4).f1) then (if ((rd_T46 l0_1 x85_4).f1) < (y123.length : Int) then (if 0 ≤ ((rd_T46 l0_1 x85_4).f2) then (if ((rd_T46 l0_1 x85_4).f2) < (y123.length : Int) then (if x118001_4.length < 1599289640401 then (spec_TrimCircuit.l3 k4 (wrap64 (3 + a0_0)) x4_2 y123 l0_1 (l0_1.length : Int) (wrap64 (x85_4 + 1)) a0_0 l0_1 l0_2 a0_0 (x118001_4 ++ [(⟨(⟨(rd_T46 l0_1 x85_4).f0.f0, (rd_T46 l0_1 x85_4).f0.f1, (rd_T46 l0_1 x85_4).f0.f2, (rd_T46 l0_1 x85_4).f0.f3, (rd_T46 l0_1 x85_4).f0.f4, (rd_T46 l0_1 x85_4).f0.f5, (rd_T46 l0_1 x85_4).f0.f6, (rd_T46 l0_1 x85_4).f0.f7, (rd_T46 l0_1 x85_4).f0.f8⟩ : S23), rd y123 ((rd_T46 l0_1 x85_4).f1), rd y123 ((rd_T46 l0_1 x85_4).f2)⟩ : S46)])) else (none)) else (none)) else (none)) else (none)) else (none)) = some (r1, r2, r3) := by rw [if_pos rfl] at H; exact H
                      clear H; have H := H1; clear H1
                      by_cases c72 : 0 ≤ ((rd_T46 l0_1 x85_4).f1)
                      ·rw [if_pos c72] at H
                       have c72b0 : decide (0 ≤ ((rd_T46 l0_1 x85_4).f1)) = true := decide_eq_true c72
                       clear c72
                       by_cases c73 : ((rd_T46 l0_1 x85_4).f1) < (y123.length : Int)
                       ·rw [if_pos c73] at H
                        have c73b0 : decide (((rd_T46 l0_1 x85_4).f1) < (y123.length : Int)) = true := decide_eq_true c73
                        clear c73
                        by_cases c74 : 0 ≤ ((rd_T46 l0_1 x85_4).f2)
                        ·rw [if_pos c74] at H
                         have c74b0 : decide (0 ≤ ((rd_T46 l0_1 x85_4).f2)) = true := decide_eq_true c74
                         clear c74
                         by_cases c75 : ((rd_T46 l0_1 x85_4).f2) < (y123.length : Int)
                         ·rw [if_pos c75] at H
                          have c75b0 : decide (((rd_T46 l0_1 x85_4).f2) < (y123.length : Int)) = true := decide_eq_true c75
                          clear c75
                          by_cases c76 : x118001_4.length < 1599289640401
                          ·rw [if_pos c76] at H
                           have LMc76 := am c76; clear c76
                           obtain ⟨y129, hy129⟩ : ∃ y_ : List (S46), y_ = (x118001_4 ++ [(⟨(⟨(rd_T46 l0_1 x85_4).f0.f0, (rd_T46 l0_1 x85_4).f0.f1, (rd_T46 l0_1 x85_4).f0.f2, (rd_T46 l0_1 x85_4).f0.f3, (rd_T46 l0_1 x85_4).f0.f4, (rd_T46 l0_1 x85_4).f0.f5, (rd_T46 l0_1 x85_4).f0.f6, (rd_T46 l0_1 x85_4).f0.f7, (rd_T46 l0_1 x85_4).f0.f8⟩ : S23), rd y123 ((rd_T46 l0_1 x85_4).f1), rd y123 ((rd_T46 l0_1 x85_4).f2)⟩ : S46)]) := ⟨_, rfl⟩
                           replace H : (spec_TrimCircuit.l3 k4 (wrap64 (3 + a0_0)) x4_2 y123 l0_1 (l0_1.length : Int) (wrap64 (x85_4 + 1)) a0_0 l0_1 l0_2 a0_0 y129) = some (r1, r2, r3) := by first | (rw [hy129]; with_reducible exact H) | (have H2_ := (Option.bind_some _ _).symm.trans H; rw [hy129]; with_reducible exact H2_) | (have H2_ := (Option.bind_some _ _).symm.trans H; with_reducible exact H2_) | with_reducible exact H | (rw [hy129]; exact H) | exact H
                           have Ny129 := am hy129; clear hy129
                           have H' := am H
                           clear H
                           have p121 : 0 ≤ (x85_4 : Int) := of_decide_eq_true (by first | with_reducible assumption | assumption)
                           have q121 : x85_4 < (l0_1.length : Int) := of_decide_eq_true (by first | with_reducible assumption | assumption)
                           obtain ⟨ad121, e121, hx121_0, hx121_1, hx121_2, hx121_3, hx121_4, hx121_5, hx121_6, hx121_7, hx121_8, hx121_9, hx121_10⟩ := at_T46 HR0_1.out x85_4 p121 q121
                           cases e121
                           replace hx121_0 := (HB.out.cell (World.block_lt_of_cell? w _ hx121_0)).trans hx121_0
                           replace hx121_1 := (HB.out.cell (World.block_lt_of_cell? w _ hx121_1)).trans hx121_1
                           replace hx121_2 := (HB.out.cell (World.block_lt_of_cell? w _ hx121_2)).trans hx121_2
                           replace hx121_3 := (HB.out.cell (World.block_lt_of_cell? w _ hx121_3)).trans hx121_3
                           replace hx121_4 := (HB.out.cell (World.block_lt_of_cell? w _ hx121_4)).trans hx121_4
                           replace hx121_5 := (HB.out.cell (World.block_lt_of_cell? w _ hx121_5)).trans hx121_5
                           replace hx121_6 := (HB.out.cell (World.block_lt_of_cell? w _ hx121_6)).trans hx121_6
                           replace hx121_7 := (HB.out.cell (World.block_lt_of_cell? w _ hx121_7)).trans hx121_7
                           replace hx121_8 := (HB.out.cell (World.block_lt_of_cell? w _ hx121_8)).trans hx121_8
                           replace hx121_9 := (HB.out.cell (World.block_lt_of_cell? w _ hx121_9)).trans hx121_9
                           replace hx121_10 := (HB.out.cell (World.block_lt_of_cell? w _ hx121_10)).trans hx121_10
                           replace p121 := eq_true p121
                           replace q121 := eq_true q121
                           try go_wp2_with (first | ((with_reducible refine gate_dst (N := 12) rfl ?_); refine box_event ?hg (N := 12) ?hd (cs := #[.int .i64 0, .int .i64 0, .int .i64 0, .int .i64 0, .int .i64 0, .int .i64 0, .int .i64 0, .int .i64 0, .int .i64 0, .int .i64 0, .int .i64 0]) (t := 46) ?hr ?_; (case hd => rfl); (case hg => rfl); (case hr => first | (go_simp; done) | (go_simp; rfl)); intro gb122 hg w77 hbox hb; have n0_ := am (Kd.R_below (bC HO_4.out) hb); have n1_ := am (Kd.R_below (bC HO_8.out) hb); have n2_ := am (Kd.R_below (Kd.R_elderB (bC HO_118001.out) gb122 (Nat.le_of_eq hg.symm)) hb); have n3_ := am (blk_below (bA BK101.out) hb); have n4_ := am (blk_below (bA BK102.out) hb); have n5_ := am (blk_below (bA BK117.out) hb); have n6_ := am (below_step (bB HB.out) hb); have n7_ := am (hbox); have n8_ := am ((by rw [hg]; exact (below_size (bB HB.out)) : w.heap.size ≤ gb122)); have n9_ := am ((by rw [hg]; exact (below_size (bB HB.out)) : w.heap.size ≤ gb122)); have n10_ := am ((by rw [hg]; exact Nat.ne_of_lt (blk_lt (g := gb101) (o := .cells #[.int .i64 a0_0, .slice (some ad121) l0_1.length c0_1, .slice A0_2 l0_2.length c0_2] 35 (0, 0)) (bA BK101.out)) : gb101 ≠ gb122)); have n11_ := am ((by rw [hg]; exact Nat.ne_of_gt (blk_lt (g := gb101) (o := .cells #[.int .i64 a0_0, .slice (some ad121) l0_1.length c0_1, .slice A0_2 l0_2.length c0_2] 35 (0, 0)) (bA BK101.out)) : gb122 ≠ gb101)); have n12_ := am ((by rw [hg]; exact Nat.ne_of_lt (blk_lt (g := gb102) (o := .cells #[.int .i64 0, .slice none 0 0, .slice none 0 0] 35 (0, 0)) (bA BK102.out)) : gb102 ≠ gb122)); have n13_ := am ((by rw [hg]; exact Nat.ne_of_gt (blk_lt (g := gb102) (o := .cells #[.int .i64 0, .slice none 0 0, .slice none 0 0] 35 (0, 0)) (bA BK102.out)) : gb122 ≠ gb102)); have n14_ := am ((by rw [hg]; exact Nat.ne_of_lt (blk_lt (g := gb117) (o := .cells #[.int .i64 a0_0, u118001, .slice none 0 0] 35 (0, 0)) (bA BK117.out)) : gb117 ≠ gb122)); have n15_ := am ((by rw [hg]; exact Nat.ne_of_gt (blk_lt (g := gb117) (o := .cells #[.int .i64 a0_0, u118001, .slice none 0 0] 35 (0, 0)) (bA BK117.out)) : gb122 ≠ gb117)); clear HO_4; clear HO_8; clear HO_118001; clear BK101; clear BK102; clear BK117; clear HB; have HO_4 := n0_; have HO_8 := n1_; have HO_118001 := n2_; have BK101 := n3_; have BK102 := n4_; have BK117 := n5_; have HB := n6_; have BK122 := n7_; have GW122 := n8_; have GE122 := n9_; have NB101_122 := n10_; have NB122_101 := n11_; have NB102_122 := n12_; have NB122_102 := n13_; have NB117_122 := n14_; have NB122_117 := n15_; clear n0_ n1_ n2_ n3_ n4_ n5_ n6_ n7_ n8_ n9_ n10_ n11_ n12_ n13_ n14_ n15_; clear hb hbox hg; have hnb78 := NB122_101.out; have hnc78 := NB101_122.out; have hnb79 := NB122_102.out; have hnc79 := NB102_122.out; have hnb80 := NB122_117.out; have hnc80 := NB117_122.out; have hcz81_0 : w77.cell? ⟨gb122, 0, none⟩ = some (.int .i64 0) := (blk_cell BK122.out 0).trans rfl; have hcz81_1 : w77.cell? ⟨gb122, 1, none⟩ = some (.int .i64 0) := (blk_cell BK122.out 1).trans rfl; have hcz81_2 : w77.cell? ⟨gb122, 2, none⟩ = some (.int .i64 0) := (blk_cell BK122.out 2).trans rfl; have hcz81_3 : w77.cell? ⟨gb122, 3, none⟩ = some (.int .i64 0) := (blk_cell BK122.out 3).trans rfl; have hcz81_4 : w77.cell? ⟨gb122, 4, none⟩ = some (.int .i64 0) := (blk_cell BK122.out 4).trans rfl; have hcz81_5 : w77.cell? ⟨gb122, 5, none⟩ = some (.int .i64 0) := (blk_cell BK122.out 5).trans rfl; have hcz81_6 : w77.cell? ⟨gb122, 6, none⟩ = some (.int .i64 0) := (blk_cell BK122.out 6).trans rfl; have hcz81_7 : w77.cell? ⟨gb122, 7, none⟩ = some (.int .i64 0) := (blk_cell BK122.out 7).trans rfl; have hcz81_8 : w77.cell? ⟨gb122, 8, none⟩ = some (.int .i64 0) := (blk_cell BK122.out 8).trans rfl; have hcz81_9 : w77.cell? ⟨gb122, 9, none⟩ = some (.int .i64 0) := (blk_cell BK122.out 9).trans rfl; have hcz81_10 : w77.cell? ⟨gb122, 10, none⟩ = some (.int .i64 0) := (blk_cell BK122.out 10).trans rfl; have hfz81_0 := blk_frozen BK122.out 0; have hfz81_1 := blk_frozen BK122.out 1; have hfz81_2 := blk_frozen BK122.out 2; have hfz81_3 := blk_frozen BK122.out 3; have hfz81_4 := blk_frozen BK122.out 4; have hfz81_5 := blk_frozen BK122.out 5; have hfz81_6 := blk_frozen BK122.out 6; have hfz81_7 := blk_frozen BK122.out 7; have hfz81_8 := blk_frozen BK122.out 8; have hfz81_9 := blk_frozen BK122.out 9; have hfz81_10 := blk_frozen BK122.out 10; have hnb82 := NB117_101.out; have hnc82 := NB101_117.out; have hnb83 := NB117_102.out; have hnc83 := NB102_117.out; have hcz84_0 : w77.cell? ⟨gb117, 0, none⟩ = some (.int .i64 a0_0) := (blk_cell BK117.out 0).trans rfl; have hcz84_1 : w77.cell? ⟨gb117, 1, none⟩ = some (u118001) := (blk_cell BK117.out 1).trans rfl; have hcz84_2 : w77.cell? ⟨gb117, 2, none⟩ = some (.slice none 0 0) := (blk_cell BK117.out 2).trans rfl; have hfz84_0 := blk_frozen BK117.out 0; have hfz84_1 := blk_frozen BK117.out 1; have hfz84_2 := blk_frozen BK117.out 2; obtain ⟨Ao85, co85, eo85⟩ := Kd.R_slice HO_118001.out; subst eo85) | ((with_reducible refine gate_builtin (b := .append) (xs := #[.tmp 90, .tmp 96]) rfl ?_); at_builtin; refine Kd.R_append (Kd.int .i64) (w0 := w) w.heap.size rfl (.tmp 90) (.tmp 96) 28 3 (.int .i64 0) 8 rfl Try.underlying28 info3 rfl (by decide) (by omega) u8 x8_4 (wrap64 ((wrap64 (3 + a0_0)) + (x118001_4.length : Int))) [.int .i64 (wrap64 ((wrap64 (3 + a0_0)) + (x118001_4.length : Int)))] (fun _ => True) (fun _ => False) rfl (by first | (go_simp; done) | (go_simp; rfl)) ?aP (fun _ hk => hk.elim) ?aF ?aO ?aB ?aS ?aL ?_; (case aP => exact rfl); (case aB => exact (bB HB.out)); (case aF => exact (fun _ _ => trivial)); (case aO => exact (bC (Kd.R_mono (Kd.R_far (p := ⟨gb122, 10, none⟩) (Kd.R_far (p := ⟨gb122, 9, none⟩) (Kd.R_far (p := ⟨gb122, 8, none⟩) (Kd.R_far (p := ⟨gb122, 7, none⟩) (Kd.R_far (p := ⟨gb122, 6, none⟩) (Kd.R_far (p := ⟨gb122, 5, none⟩) (Kd.R_far (p := ⟨gb122, 4, none⟩) (Kd.R_far (p := ⟨gb122, 3, none⟩) (Kd.R_far (p := ⟨gb122, 2, none⟩) (Kd.R_far (p := ⟨gb122, 1, none⟩) (Kd.R_far (p := ⟨gb122, 0, none⟩) (Kd.R_types HO_8.out BK122.out (by decide)) (fun _ hk => hk.2) (.int .i64 ((rd_T46 l0_1 x85_4).f0.f0))) (fun _ hk => hk.2) (.int .i64 ((rd_T46 l0_1 x85_4).f0.f1))) (fun _ hk => hk.2) (.int .i64 ((rd_T46 l0_1 x85_4).f0.f2))) (fun _ hk => hk.2) (.int .i64 ((rd_T46 l0_1 x85_4).f0.f3))) (fun _ hk => hk.2) (.int .i64 ((rd_T46 l0_1 x85_4).f0.f4))) (fun _ hk => hk.2) (.int .i64 ((rd_T46 l0_1 x85_4).f0.f5))) (fun _ hk => hk.2) (.int .i64 ((rd_T46 l0_1 x85_4).f0.f6))) (fun _ hk => hk.2) (.int .i64 ((rd_T46 l0_1 x85_4).f0.f7))) (fun _ hk => hk.2) (.int .i64 ((rd_T46 l0_1 x85_4).f0.f8))) (fun _ hk => hk.2) (.int .i64 ((rd_T46 l0_1 x85_4).f1))) (fun _ hk => hk.2) (.int .i64 ((rd_T46 l0_1 x85_4).f2))) (fun _ hk => trivial)))); (case aS => exact (below_size (bB HB.out))); (case aL => have := LMc66.out; omega); intro v124 w86 ho hb hg hat; rw [← Ny123.out] at ho; have n0_ := am (Kd.R_over' (bC ((Kd.R_mono (Kd.R_far (p := ⟨gb122, 10, none⟩) (Kd.R_far (p := ⟨gb122, 9, none⟩) (Kd.R_far (p := ⟨gb122, 8, none⟩) (Kd.R_far (p := ⟨gb122, 7, none⟩) (Kd.R_far (p := ⟨gb122, 6, none⟩) (Kd.R_far (p := ⟨gb122, 5, none⟩) (Kd.R_far (p := ⟨gb122, 4, none⟩) (Kd.R_far (p := ⟨gb122, 3, none⟩) (Kd.R_far (p := ⟨gb122, 2, none⟩) (Kd.R_far (p := ⟨gb122, 1, none⟩) (Kd.R_far (p := ⟨gb122, 0, none⟩) (Kd.R_types HO_4.out BK122.out (by decide)) (fun _ hk => hk.2) (.int .i64 ((rd_T46 l0_1 x85_4).f0.f0))) (fun _ hk => hk.2) (.int .i64 ((rd_T46 l0_1 x85_4).f0.f1))) (fun _ hk => hk.2) (.int .i64 ((rd_T46 l0_1 x85_4).f0.f2))) (fun _ hk => hk.2) (.int .i64 ((rd_T46 l0_1 x85_4).f0.f3))) (fun _ hk => hk.2) (.int .i64 ((rd_T46 l0_1 x85_4).f0.f4))) (fun _ hk => hk.2) (.int .i64 ((rd_T46 l0_1 x85_4).f0.f5))) (fun _ hk => hk.2) (.int .i64 ((rd_T46 l0_1 x85_4).f0.f6))) (fun _ hk => hk.2) (.int .i64 ((rd_T46 l0_1 x85_4).f0.f7))) (fun _ hk => hk.2) (.int .i64 ((rd_T46 l0_1 x85_4).f0.f8))) (fun _ hk => hk.2) (.int .i64 ((rd_T46 l0_1 x85_4).f1))) (fun _ hk => hk.2) (.int .i64 ((rd_T46 l0_1 x85_4).f2))) (fun _ h_ => h_.1)))) (Kd.R_typed (bC ((Kd.R_mono (Kd.R_far (p := ⟨gb122, 10, none⟩) (Kd.R_far (p := ⟨gb122, 9, none⟩) (Kd.R_far (p := ⟨gb122, 8, none⟩) (Kd.R_far (p := ⟨gb122, 7, none⟩) (Kd.R_far (p := ⟨gb122, 6, none⟩) (Kd.R_far (p := ⟨gb122, 5, none⟩) (Kd.R_far (p := ⟨gb122, 4, none⟩) (Kd.R_far (p := ⟨gb122, 3, none⟩) (Kd.R_far (p := ⟨gb122, 2, none⟩) (Kd.R_far (p := ⟨gb122, 1, none⟩) (Kd.R_far (p := ⟨gb122, 0, none⟩) (Kd.R_types HO_8.out BK122.out (by decide)) (fun _ hk => hk.2) (.int .i64 ((rd_T46 l0_1 x85_4).f0.f0))) (fun _ hk => hk.2) (.int .i64 ((rd_T46 l0_1 x85_4).f0.f1))) (fun _ hk => hk.2) (.int .i64 ((rd_T46 l0_1 x85_4).f0.f2))) (fun _ hk => hk.2) (.int .i64 ((rd_T46 l0_1 x85_4).f0.f3))) (fun _ hk => hk.2) (.int .i64 ((rd_T46 l0_1 x85_4).f0.f4))) (fun _ hk => hk.2) (.int .i64 ((rd_T46 l0_1 x85_4).f0.f5))) (fun _ hk => hk.2) (.int .i64 ((rd_T46 l0_1 x85_4).f0.f6))) (fun _ hk => hk.2) (.int .i64 ((rd_T46 l0_1 x85_4).f0.f7))) (fun _ hk => hk.2) (.int .i64 ((rd_T46 l0_1 x85_4).f0.f8))) (fun _ hk => hk.2) (.int .i64 ((rd_T46 l0_1 x85_4).f1))) (fun _ hk => hk.2) (.int .i64 ((rd_T46 l0_1 x85_4).f2))) (fun _ h_ => h_.1))))) (by decide) hg); have n1_ := am (Kd.R_over' (bC ((Kd.R_mono (Kd.R_far (p := ⟨gb122, 10, none⟩) (Kd.R_far (p := ⟨gb122, 9, none⟩) (Kd.R_far (p := ⟨gb122, 8, none⟩) (Kd.R_far (p := ⟨gb122, 7, none⟩) (Kd.R_far (p := ⟨gb122, 6, none⟩) (Kd.R_far (p := ⟨gb122, 5, none⟩) (Kd.R_far (p := ⟨gb122, 4, none⟩) (Kd.R_far (p := ⟨gb122, 3, none⟩) (Kd.R_far (p := ⟨gb122, 2, none⟩) (Kd.R_far (p := ⟨gb122, 1, none⟩) (Kd.R_far (p := ⟨gb122, 0, none⟩) (Kd.R_mono HO_118001.out (fun k_ hk => (⟨hk, hk.2⟩ : _ ∧ k_ ≠ gb122))) (fun _ hk => hk.2) (.int .i64 ((rd_T46 l0_1 x85_4).f0.f0))) (fun _ hk => hk.2) (.int .i64 ((rd_T46 l0_1 x85_4).f0.f1))) (fun _ hk => hk.2) (.int .i64 ((rd_T46 l0_1 x85_4).f0.f2))) (fun _ hk => hk.2) (.int .i64 ((rd_T46 l0_1 x85_4).f0.f3))) (fun _ hk => hk.2) (.int .i64 ((rd_T46 l0_1 x85_4).f0.f4))) (fun _ hk => hk.2) (.int .i64 ((rd_T46 l0_1 x85_4).f0.f5))) (fun _ hk => hk.2) (.int .i64 ((rd_T46 l0_1 x85_4).f0.f6))) (fun _ hk => hk.2) (.int .i64 ((rd_T46 l0_1 x85_4).f0.f7))) (fun _ hk => hk.2) (.int .i64 ((rd_T46 l0_1 x85_4).f0.f8))) (fun _ hk => hk.2) (.int .i64 ((rd_T46 l0_1 x85_4).f1))) (fun _ hk => hk.2) (.int .i64 ((rd_T46 l0_1 x85_4).f2))) (fun _ h_ => h_.1)))) (Kd.R_typed (bC ((Kd.R_mono (Kd.R_far (p := ⟨gb122, 10, none⟩) (Kd.R_far (p := ⟨gb122, 9, none⟩) (Kd.R_far (p := ⟨gb122, 8, none⟩) (Kd.R_far (p := ⟨gb122, 7, none⟩) (Kd.R_far (p := ⟨gb122, 6, none⟩) (Kd.R_far (p := ⟨gb122, 5, none⟩) (Kd.R_far (p := ⟨gb122, 4, none⟩) (Kd.R_far (p := ⟨gb122, 3, none⟩) (Kd.R_far (p := ⟨gb122, 2, none⟩) (Kd.R_far (p := ⟨gb122, 1, none⟩) (Kd.R_far (p := ⟨gb122, 0, none⟩) (Kd.R_types HO_8.out BK122.out (by decide)) (fun _ hk => hk.2) (.int .i64 ((rd_T46 l0_1 x85_4).f0.f0))) (fun _ hk => hk.2) (.int .i64 ((rd_T46 l0_1 x85_4).f0.f1))) (fun _ hk => hk.2) (.int .i64 ((rd_T46 l0_1 x85_4).f0.f2))) (fun _ hk => hk.2) (.int .i64 ((rd_T46 l0_1 x85_4).f0.f3))) (fun _ hk => hk.2) (.int .i64 ((rd_T46 l0_1 x85_4).f0.f4))) (fun _ hk => hk.2) (.int .i64 ((rd_T46 l0_1 x85_4).f0.f5))) (fun _ hk => hk.2) (.int .i64 ((rd_T46 l0_1 x85_4).f0.f6))) (fun _ hk => hk.2) (.int .i64 ((rd_T46 l0_1 x85_4).f0.f7))) (fun _ hk => hk.2) (.int .i64 ((rd_T46 l0_1 x85_4).f0.f8))) (fun _ hk => hk.2) (.int .i64 ((rd_T46 l0_1 x85_4).f1))) (fun _ hk => hk.2) (.int .i64 ((rd_T46 l0_1 x85_4).f2))) (fun _ h_ => h_.1))))) (by decide) hg); have n2_ := am (blk_grown (g := gb101) (o := .cells #[.int .i64 a0_0, .slice (some ad121) l0_1.length c0_1, .slice A0_2 l0_2.length c0_2] 35 (0, 0)) (by (with_reducible repeat (first | refine blk_drewN ?_ _ | refine blk_drew ?_ | refine blk_alloc ?_ _)); refine blk_far ?_ NB101_122.out _; (with_reducible repeat (first | refine blk_drewN ?_ _ | refine blk_drew ?_ | refine blk_alloc ?_ _)); refine blk_far ?_ NB101_122.out _; (with_reducible repeat (first | refine blk_drewN ?_ _ | refine blk_drew ?_ | refine blk_alloc ?_ _)); refine blk_far ?_ NB101_122.out _; (with_reducible repeat (first | refine blk_drewN ?_ _ | refine blk_drew ?_ | refine blk_alloc ?_ _)); refine blk_far ?_ NB101_122.out _; (with_reducible repeat (first | refine blk_drewN ?_ _ | refine blk_drew ?_ | refine blk_alloc ?_ _)); refine blk_far ?_ NB101_122.out _; (with_reducible repeat (first | refine blk_drewN ?_ _ | refine blk_drew ?_ | refine blk_alloc ?_ _)); refine blk_far ?_ NB101_122.out _; (with_reducible repeat (first | refine blk_drewN ?_ _ | refine blk_drew ?_ | refine blk_alloc ?_ _)); refine blk_far ?_ NB101_122.out _; (with_reducible repeat (first | refine blk_drewN ?_ _ | refine blk_drew ?_ | refine blk_alloc ?_ _)); refine blk_far ?_ NB101_122.out _; (with_reducible repeat (first | refine blk_drewN ?_ _ | refine blk_drew ?_ | refine blk_alloc ?_ _)); refine blk_far ?_ NB101_122.out _; (with_reducible repeat (first | refine blk_drewN ?_ _ | refine blk_drew ?_ | refine blk_alloc ?_ _)); refine blk_far ?_ NB101_122.out _; (with_reducible repeat (first | refine blk_drewN ?_ _ | refine blk_drew ?_ | refine blk_alloc ?_ _)); refine blk_far ?_ NB101_122.out _; (with_reducible repeat (first | refine blk_drewN ?_ _ | refine blk_drew ?_ | refine blk_alloc ?_ _)); exact BK101.out) hg (Kd.R_ne HO_8.out BK101.out (by decide))); have n3_ := am (blk_grown (g := gb102) (o := .cells #[.int .i64 0, .slice none 0 0, .slice none 0 0] 35 (0, 0)) (by (with_reducible repeat (first | refine blk_drewN ?_ _ | refine blk_drew ?_ | refine blk_alloc ?_ _)); refine blk_far ?_ NB102_122.out _; (with_reducible repeat (first | refine blk_drewN ?_ _ | refine blk_drew ?_ | refine blk_alloc ?_ _)); refine blk_far ?_ NB102_122.out _; (with_reducible repeat (first | refine blk_drewN ?_ _ | refine blk_drew ?_ | refine blk_alloc ?_ _)); refine blk_far ?_ NB102_122.out _; (with_reducible repeat (first | refine blk_drewN ?_ _ | refine blk_drew ?_ | refine blk_alloc ?_ _)); refine blk_far ?_ NB102_122.out _; (with_reducible repeat (first | refine blk_drewN ?_ _ | refine blk_drew ?_ | refine blk_alloc ?_ _)); refine blk_far ?_ NB102_122.out _; (with_reducible repeat (first | refine blk_drewN ?_ _ | refine blk_drew ?_ | refine blk_alloc ?_ _)); refine blk_far ?_ NB102_122.out _; (with_reducible repeat (first | refine blk_drewN ?_ _ | refine blk_drew ?_ | refine blk_alloc ?_ _)); refine blk_far ?_ NB102_122.out _; (with_reducible repeat (first | refine blk_drewN ?_ _ | refine blk_drew ?_ | refine blk_alloc ?_ _)); refine blk_far ?_ NB102_122.out _; (with_reducible repeat (first | refine blk_drewN ?_ _ | refine blk_drew ?_ | refine blk_alloc ?_ _)); refine blk_far ?_ NB102_122.out _; (with_reducible repeat (first | refine blk_drewN ?_ _ | refine blk_drew ?_ | refine blk_alloc ?_ _)); refine blk_far ?_ NB102_122.out _; (with_reducible repeat (first | refine blk_drewN ?_ _ | refine blk_drew ?_ | refine blk_alloc ?_ _)); refine blk_far ?_ NB102_122.out _; (with_reducible repeat (first | refine blk_drewN ?_ _ | refine blk_drew ?_ | refine blk_alloc ?_ _)); exact BK102.out) hg (Kd.R_ne HO_8.out BK102.out (by decide))); have n4_ := am (blk_grown (g := gb117) (o := .cells #[.int .i64 a0_0, .slice Ao85 x118001_4.length co85, .slice none 0 0] 35 (0, 0)) (by (with_reducible repeat (first | refine blk_drewN ?_ _ | refine blk_drew ?_ | refine blk_alloc ?_ _)); refine blk_far ?_ NB117_122.out _; (with_reducible repeat (first | refine blk_drewN ?_ _ | refine blk_drew ?_ | refine blk_alloc ?_ _)); refine blk_far ?_ NB117_122.out _; (with_reducible repeat (first | refine blk_drewN ?_ _ | refine blk_drew ?_ | refine blk_alloc ?_ _)); refine blk_far ?_ NB117_122.out _; (with_reducible repeat (first | refine blk_drewN ?_ _ | refine blk_drew ?_ | refine blk_alloc ?_ _)); refine blk_far ?_ NB117_122.out _; (with_reducible repeat (first | refine blk_drewN ?_ _ | refine blk_drew ?_ | refine blk_alloc ?_ _)); refine blk_far ?_ NB117_122.out _; (with_reducible repeat (first | refine blk_drewN ?_ _ | refine blk_drew ?_ | refine blk_alloc ?_ _)); refine blk_far ?_ NB117_122.out _; (with_reducible repeat (first | refine blk_drewN ?_ _ | refine blk_drew ?_ | refine blk_alloc ?_ _)); refine blk_far ?_ NB117_122.out _; (with_reducible repeat (first | refine blk_drewN ?_ _ | refine blk_drew ?_ | refine blk_alloc ?_ _)); refine blk_far ?_ NB117_122.out _; (with_reducible repeat (first | refine blk_drewN ?_ _ | refine blk_drew ?_ | refine blk_alloc ?_ _)); refine blk_far ?_ NB117_122.out _; (with_reducible repeat (first | refine blk_drewN ?_ _ | refine blk_drew ?_ | refine blk_alloc ?_ _)); refine blk_far ?_ NB117_122.out _; (with_reducible repeat (first | refine blk_drewN ?_ _ | refine blk_drew ?_ | refine blk_alloc ?_ _)); refine blk_far ?_ NB117_122.out _; (with_reducible repeat (first | refine blk_drewN ?_ _ | refine blk_drew ?_ | refine blk_alloc ?_ _)); exact BK117.out) hg (Kd.R_ne HO_8.out BK117.out (by decide))); have n5_ := am (blk_grown (g := gb122) (o := .cells #[.int .i64 ((rd_T46 l0_1 x85_4).f0.f0), .int .i64 ((rd_T46 l0_1 x85_4).f0.f1), .int .i64 ((rd_T46 l0_1 x85_4).f0.f2), .int .i64 ((rd_T46 l0_1 x85_4).f0.f3), .int .i64 ((rd_T46 l0_1 x85_4).f0.f4), .int .i64 ((rd_T46 l0_1 x85_4).f0.f5), .int .i64 ((rd_T46 l0_1 x85_4).f0.f6), .int .i64 ((rd_T46 l0_1 x85_4).f0.f7), .int .i64 ((rd_T46 l0_1 x85_4).f0.f8), .int .i64 ((rd_T46 l0_1 x85_4).f1), .int .i64 ((rd_T46 l0_1 x85_4).f2)] 46 (0, 0)) (by (with_reducible repeat (first | refine blk_drewN ?_ _ | refine blk_drew ?_ | refine blk_alloc ?_ _)); refine blk_put (cs := #[.int .i64 ((rd_T46 l0_1 x85_4).f0.f0), .int .i64 ((rd_T46 l0_1 x85_4).f0.f1), .int .i64 ((rd_T46 l0_1 x85_4).f0.f2), .int .i64 ((rd_T46 l0_1 x85_4).f0.f3), .int .i64 ((rd_T46 l0_1 x85_4).f0.f4), .int .i64 ((rd_T46 l0_1 x85_4).f0.f5), .int .i64 ((rd_T46 l0_1 x85_4).f0.f6), .int .i64 ((rd_T46 l0_1 x85_4).f0.f7), .int .i64 ((rd_T46 l0_1 x85_4).f0.f8), .int .i64 ((rd_T46 l0_1 x85_4).f1), .int .i64 0]) ?_ 10 _ rfl; (with_reducible repeat (first | refine blk_drewN ?_ _ | refine blk_drew ?_ | refine blk_alloc ?_ _)); refine blk_put (cs := #[.int .i64 ((rd_T46 l0_1 x85_4).f0.f0), .int .i64 ((rd_T46 l0_1 x85_4).f0.f1), .int .i64 ((rd_T46 l0_1 x85_4).f0.f2), .int .i64 ((rd_T46 l0_1 x85_4).f0.f3), .int .i64 ((rd_T46 l0_1 x85_4).f0.f4), .int .i64 ((rd_T46 l0_1 x85_4).f0.f5), .int .i64 ((rd_T46 l0_1 x85_4).f0.f6), .int .i64 ((rd_T46 l0_1 x85_4).f0.f7), .int .i64 ((rd_T46 l0_1 x85_4).f0.f8), .int .i64 0, .int .i64 0]) ?_ 9 _ rfl; (with_reducible repeat (first | refine blk_drewN ?_ _ | refine blk_drew ?_ | refine blk_alloc ?_ _)); refine blk_put (cs := #[.int .i64 ((rd_T46 l0_1 x85_4).f0.f0), .int .i64 ((rd_T46 l0_1 x85_4).f0.f1), .int .i64 ((rd_T46 l0_1 x85_4).f0.f2), .int .i64 ((rd_T46 l0_1 x85_4).f0.f3), .int .i64 ((rd_T46 l0_1 x85_4).f0.f4), .int .i64 ((rd_T46 l0_1 x85_4).f0.f5), .int .i64 ((rd_T46 l0_1 x85_4).f0.f6), .int .i64 ((rd_T46 l0_1 x85_4).f0.f7), .int .i64 0, .int .i64 0, .int .i64 0]) ?_ 8 _ rfl; (with_reducible repeat (first | refine blk_drewN ?_ _ | refine blk_drew ?_ | refine blk_alloc ?_ _)); refine blk_put (cs := #[.int .i64 ((rd_T46 l0_1 x85_4).f0.f0), .int .i64 ((rd_T46 l0_1 x85_4).f0.f1), .int .i64 ((rd_T46 l0_1 x85_4).f0.f2), .int .i64 ((rd_T46 l0_1 x85_4).f0.f3), .int .i64 ((rd_T46 l0_1 x85_4).f0.f4), .int .i64 ((rd_T46 l0_1 x85_4).f0.f5), .int .i64 ((rd_T46 l0_1 x85_4).f0.f6), .int .i64 0, .int .i64 0, .int .i64 0, .int .i64 0]) ?_ 7 _ rfl; (with_reducible repeat (first | refine blk_drewN ?_ _ | refine blk_drew ?_ | refine blk_alloc ?_ _)); refine blk_put (cs := #[.int .i64 ((rd_T46 l0_1 x85_4).f0.f0), .int .i64 ((rd_T46 l0_1 x85_4).f0.f1), .int .i64 ((rd_T46 l0_1 x85_4).f0.f2), .int .i64 ((rd_T46 l0_1 x85_4).f0.f3), .int .i64 ((rd_T46 l0_1 x85_4).f0.f4), .int .i64 ((rd_T46 l0_1 x85_4).f0.f5), .int .i64 0, .int .i64 0, .int .i64 0, .int .i64 0, .int .i64 0]) ?_ 6 _ rfl; (with_reducible repeat (first | refine blk_drewN ?_ _ | refine blk_drew ?_ | refine blk_alloc ?_ _)); refine blk_put (cs := #[.int .i64 ((rd_T46 l0_1 x85_4).f0.f0), .int .i64 ((rd_T46 l0_1 x85_4).f0.f1), .int .i64 ((rd_T46 l0_1 x85_4).f0.f2), .int .i64 ((rd_T46 l0_1 x85_4).f0.f3), .int .i64 ((rd_T46 l0_1 x85_4).f0.f4), .int .i64 0, .int .i64 0, .int .i64 0, .int .i64 0, .int .i64 0, .int .i64 0]) ?_ 5 _ rfl; (with_reducible repeat (first | refine blk_drewN ?_ _ | refine blk_drew ?_ | refine blk_alloc ?_ _)); refine blk_put (cs := #[.int .i64 ((rd_T46 l0_1 x85_4).f0.f0), .int .i64 ((rd_T46 l0_1 x85_4).f0.f1), .int .i64 ((rd_T46 l0_1 x85_4).f0.f2), .int .i64 ((rd_T46 l0_1 x85_4).f0.f3), .int .i64 0, .int .i64 0, .int .i64 0, .int .i64 0, .int .i64 0, .int .i64 0, .int .i64 0]) ?_ 4 _ rfl; (with_reducible repeat (first | refine blk_drewN ?_ _ | refine blk_drew ?_ | refine blk_alloc ?_ _)); refine blk_put (cs := #[.int .i64 ((rd_T46 l0_1 x85_4).f0.f0), .int .i64 ((rd_T46 l0_1 x85_4).f0.f1), .int .i64 ((rd_T46 l0_1 x85_4).f0.f2), .int .i64 0, .int .i64 0, .int .i64 0, .int .i64 0, .int .i64 0, .int .i64 0, .int .i64 0, .int .i64 0]) ?_ 3 _ rfl; (with_reducible repeat (first | refine blk_drewN ?_ _ | refine blk_drew ?_ | refine blk_alloc ?_ _)); refine blk_put (cs := #[.int .i64 ((rd_T46 l0_1 x85_4).f0.f0), .int .i64 ((rd_T46 l0_1 x85_4).f0.f1), .int .i64 0, .int .i64 0, .int .i64 0, .int .i64 0, .int .i64 0, .int .i64 0, .int .i64 0, .int .i64 0, .int .i64 0]) ?_ 2 _ rfl; (with_reducible repeat (first | refine blk_drewN ?_ _ | refine blk_drew ?_ | refine blk_alloc ?_ _)); refine blk_put (cs := #[.int .i64 ((rd_T46 l0_1 x85_4).f0.f0), .int .i64 0, .int .i64 0, .int .i64 0, .int .i64 0, .int .i64 0, .int .i64 0, .int .i64 0, .int .i64 0, .int .i64 0, .int .i64 0]) ?_ 1 _ rfl; (with_reducible repeat (first | refine blk_drewN ?_ _ | refine blk_drew ?_ | refine blk_alloc ?_ _)); refine blk_put (cs := #[.int .i64 0, .int .i64 0, .int .i64 0, .int .i64 0, .int .i64 0, .int .i64 0, .int .i64 0, .int .i64 0, .int .i64 0, .int .i64 0, .int .i64 0]) ?_ 0 _ rfl; (with_reducible repeat (first | refine blk_drewN ?_ _ | refine blk_drew ?_ | refine blk_alloc ?_ _)); exact BK122.out) hg (Kd.R_ne HO_8.out BK122.out (by decide))); have n6_ := am (hb); have n7_ := am (ho); clear HO_4; clear HO_118001; clear BK101; clear BK102; clear BK117; clear BK122; clear HB; clear HO_8; have HO_4 := n0_; have HO_118001 := n1_; have BK101 := n2_; have BK102 := n3_; have BK117 := n4_; have BK122 := n5_; have HB := n6_; have HO125 := n7_; clear n0_ n1_ n2_ n3_ n4_ n5_ n6_ n7_; clear ho hb hg hat; obtain ⟨Ao87, co87, eo87⟩ := Kd.R_slice HO_4.out; subst eo87; have p126 : 0 ≤ ((ji67) : Int) := of_decide_eq_true (by first | with_reducible assumption | assumption); have q126 : (ji67) < (x4_2.length : Int) := of_decide_eq_true (by first | with_reducible assumption | assumption); obtain ⟨ad126, e126, hx126_0⟩ := Kd.at_bool (Kd.R_reads' HO_4.out).2.2 (ji67) p126 q126; (try rw [← Nbq70.out] at hx126_0); cases e126; replace p126 := eq_true p126; replace q126 := eq_true q126))
                           have n0_ := am (Kd.R_drew HO_4.out); have n1_ := am (Kd.R_drew HO_118001.out); have n2_ := am (Kd.R_drew HO125.out); have n3_ := am (blk_drew BK101.out); have n4_ := am (blk_drew BK102.out); have n5_ := am (blk_drew BK117.out); have n6_ := am (blk_drew BK122.out); have n7_ := am (below_drew1 HB.out); clear HO_4; clear HO_118001; clear HO125; clear BK101; clear BK102; clear BK117; clear BK122; clear HB; have HO_4 := n0_; have HO_118001 := n1_; have HO125 := n2_; have BK101 := n3_; have BK102 := n4_; have BK117 := n5_; have BK122 := n6_; have HB := n7_; clear n0_ n1_ n2_ n3_ n4_ n5_ n6_ n7_
                           obtain ⟨Ao89, co89, eo89⟩ := Kd.R_slice HO125.out
                           (first | subst eo89 | (injection eo89 with f1_ f2_ f3_; have f4_ := f1_.symm; have f5_ := f3_.symm; clear f1_ f2_ f3_; subst f4_; subst f5_))
                           have p127 : 0 ≤ (((rd_T46 l0_1 x85_4).f1) : Int) := of_decide_eq_true (by first | with_reducible assumption | assumption)
                           have q127 : ((rd_T46 l0_1 x85_4).f1) < (y123.length : Int) := of_decide_eq_true (by first | with_reducible assumption | assumption)
                           obtain ⟨ad127, e127, hx127_0⟩ := Kd.at_int (Kd.R_reads' HO125.out).2.2 ((rd_T46 l0_1 x85_4).f1) p127 q127
                           cases e127
                           replace p127 := eq_true p127
                           replace q127 := eq_true q127
                           have p128 : 0 ≤ (((rd_T46 l0_1 x85_4).f2) : Int) := of_decide_eq_true (by first | with_reducible assumption | assumption)
                           have q128 : ((rd_T46 l0_1 x85_4).f2) < (y123.length : Int) := of_decide_eq_true (by first | with_reducible assumption | assumption)
                           obtain ⟨ad128, e128, hx128_0⟩ := Kd.at_int (Kd.R_reads' HO125.out).2.2 ((rd_T46 l0_1 x85_4).f2) p128 q128
                           obtain rfl : ad127 = ad128 := (by injection e128)
                           replace p128 := eq_true p128
                           replace q128 := eq_true q128
                           refine start_ (n := 19) (S := fun w' => w'.cell? ⟨gb117, 0, none⟩ = some (.int .i64 a0_0) ∧ w'.cell? ⟨gb117, 1, none⟩ = some (.slice Ao85 x118001_4.length co85) ∧ w'.cell? ⟨gb117, 2, none⟩ = some (.slice none 0 0) ∧ w'.cell? ⟨gb122, 0, none⟩ = some (.int .i64 ((rd_T46 l0_1 x85_4).f0.f0)) ∧ w'.cell? ⟨gb122, 1, none⟩ = some (.int .i64 ((rd_T46 l0_1 x85_4).f0.f1)) ∧ w'.cell? ⟨gb122, 2, none⟩ = some (.int .i64 ((rd_T46 l0_1 x85_4).f0.f2)) ∧ w'.cell? ⟨gb122, 3, none⟩ = some (.int .i64 ((rd_T46 l0_1 x85_4).f0.f3)) ∧ w'.cell? ⟨gb122, 4, none⟩ = some (.int .i64 ((rd_T46 l0_1 x85_4).f0.f4)) ∧ w'.cell? ⟨gb122, 5, none⟩ = some (.int .i64 ((rd_T46 l0_1 x85_4).f0.f5)) ∧ w'.cell? ⟨gb122, 6, none⟩ = some (.int .i64 ((rd_T46 l0_1 x85_4).f0.f6)) ∧ w'.cell? ⟨gb122, 7, none⟩ = some (.int .i64 ((rd_T46 l0_1 x85_4).f0.f7)) ∧ w'.cell? ⟨gb122, 8, none⟩ = some (.int .i64 ((rd_T46 l0_1 x85_4).f0.f8)) ∧ w'.cell? ⟨gb122, 9, none⟩ = some (.int .i64 ((rd_T46 l0_1 x85_4).f1)) ∧ w'.cell? ⟨gb122, 10, none⟩ = some (.int .i64 ((rd_T46 l0_1 x85_4).f2)) ∧ w'.cell? (ad127.add (((rd_T46 l0_1 x85_4).f1)).toNat) = some (.int .i64 (rd y123 ((rd_T46 l0_1 x85_4).f1))) ∧ w'.cell? (ad127.add (((rd_T46 l0_1 x85_4).f2)).toNat) = some (.int .i64 (rd y123 ((rd_T46 l0_1 x85_4).f2)))) (ds := [16, 18]) q37_0 (by kernel_rfl) rfl rfl ⟨(blk_cell BK117.out 0).trans rfl, (blk_cell BK117.out 1).trans rfl, (blk_cell BK117.out 2).trans rfl, (blk_cell BK122.out 0).trans rfl, (blk_cell BK122.out 1).trans rfl, (blk_cell BK122.out 2).trans rfl, (blk_cell BK122.out 3).trans rfl, (blk_cell BK122.out 4).trans rfl, (blk_cell BK122.out 5).trans rfl, (blk_cell BK122.out 6).trans rfl, (blk_cell BK122.out 7).trans rfl, (blk_cell BK122.out 8).trans rfl, (blk_cell BK122.out 9).trans rfl, (blk_cell BK122.out 10).trans rfl, hx127_0, hx128_0⟩ (fun hHeld => ?_); refine with_tabW spec_TrimCircuit.tab27 spec_TrimCircuit.bits27 (fun HT_ HW_ => ?_)
                           generalize w86.drew = w88 at HO_4 HO_118001 HO125 BK101 BK102 BK117 BK122 HB hx127_0 hx128_0 hHeld ⊢
                           refine pure_ (i := 0) (N := some 104) (v := ?_) (a' := ?_) q37_1 rfl rfl (any_of HT_.out (by kernel_rfl)) (fun _ _ _ h => h) (Or.inl ⟨by rfl, ?_⟩) ?_ ?_; rotate_left
                           ·intro w'
                            go_simp; with_reducible rfl
                           rotate_left
                           ·simp only [Act.put, qa37, qb37, qc37, i64_w, i32_w]
                            rfl
                           refine pure_ (i := 2) (N := some 106) (v := ?_) (a' := ?_) q37_2 rfl rfl (any_of HT_.out (by kernel_rfl)) (fun _ _ _ h => h) (Or.inl ⟨by rfl, ?_⟩) ?_ ?_; rotate_left
                           ·intro w'
                            go_simp; with_reducible rfl
                           rotate_left
                           ·simp only [Act.put, qa37, qb37, qc37, i64_w, i32_w]
                            rfl
                           refine pure_ (i := 4) (N := some 108) (v := ?_) (a' := ?_) q37_3 rfl rfl (any_of HT_.out (by kernel_rfl)) (fun _ _ _ h => h) (Or.inl ⟨by rfl, ?_⟩) ?_ ?_; rotate_left
                           ·intro w'
                            go_simp; with_reducible rfl
                           rotate_left
                           ·simp only [Act.put, qa37, qb37, qc37, i64_w, i32_w]
                            rfl
                           refine pure_ (i := 5) (N := some 109) (v := ?_) (a' := ?_) q37_4 rfl rfl (any_of HT_.out (by kernel_rfl)) (fun _ _ _ h => h) (Or.inl ⟨by rfl, ?_⟩) ?_ ?_; rotate_left
                           ·intro w'
                            go_simp; with_reducible rfl
                           rotate_left
                           ·simp only [Act.put, qa37, qb37, qc37, i64_w, i32_w]
                            rfl
                           refine pure_ (i := 9) (N := some 113) (v := ?_) (a' := ?_) q37_5 rfl rfl (any_of HT_.out (by kernel_rfl)) (fun _ _ _ h => h) (Or.inl ⟨by rfl, ?_⟩) ?_ ?_; rotate_left
                           ·intro w'
                            go_simp; with_reducible rfl
                           rotate_left
                           ·simp only [Act.put, qa37, qb37, qc37, i64_w, i32_w]
                            rfl
                           refine pure_ (i := 10) (N := some 114) (v := ?_) (a' := ?_) q37_6 rfl rfl (any_of HT_.out (by kernel_rfl)) (fun _ _ _ h => h) (Or.inl ⟨by rfl, ?_⟩) ?_ ?_; rotate_left
                           ·intro w'
                            go_simp; with_reducible rfl
                           rotate_left
                           ·simp only [Act.put, qa37, qb37, qc37, i64_w, i32_w]
                            rfl
                           refine take_ (i := 1) (N := some 105) (v := ?_) (a' := ?_) q37_7 rfl rfl (take_ofW HT_.out HW_.out (by kernel_rfl)) (fun _ _ _ h => h) (Or.inl ⟨by rfl, ?_⟩) hHeld ?_ ?_; rotate_left
                           ·rintro w' ⟨s0, s1, s2, s3, s4, s5, s6, s7, s8, s9, s10, s11, s12, s13, s14, s15⟩
                            go_simp; with_reducible rfl
                           rotate_left
                           ·simp only [Act.put, qa37, qb37, qc37, i64_w, i32_w]
                            rfl
                           refine take_ (i := 3) (N := some 107) (v := ?_) (a' := ?_) q37_8 rfl rfl (take_ofW HT_.out HW_.out (by kernel_rfl)) (fun _ _ _ h => h) (Or.inl ⟨by rfl, ?_⟩) hHeld ?_ ?_; rotate_left
                           ·rintro w' ⟨s0, s1, s2, s3, s4, s5, s6, s7, s8, s9, s10, s11, s12, s13, s14, s15⟩
                            go_simp; with_reducible rfl
                           rotate_left
                           ·simp only [Act.put, qa37, qb37, qc37, i64_w, i32_w]
                            rfl
                           refine take_ (i := 6) (N := some 110) (v := ?_) (a' := ?_) q37_9 rfl rfl (take_ofW HT_.out HW_.out (by kernel_rfl)) (fun _ _ _ h => h) (Or.inl ⟨by rfl, ?_⟩) hHeld ?_ ?_; rotate_left
                           ·rintro w' ⟨s0, s1, s2, s3, s4, s5, s6, s7, s8, s9, s10, s11, s12, s13, s14, s15⟩
                            go_simp; with_reducible rfl
                           rotate_left
                           ·simp only [Act.put, qa37, qb37, qc37, i64_w, i32_w]
                            rfl
                           refine pure_ (i := 7) (N := some 111) (v := ?_) (a' := ?_) q37_10 rfl rfl (any_of HT_.out (by kernel_rfl)) (fun _ _ _ h => h) (Or.inl ⟨by rfl, ?_⟩) ?_ ?_; rotate_left
                           ·intro w'
                            go_simp; with_reducible rfl
                           rotate_left
                           ·simp only [Act.put, qa37, qb37, qc37, i64_w, i32_w]
                            rfl
                           refine take_ (i := 8) (N := some 112) (v := ?_) (a' := ?_) q37_11 rfl rfl (take_ofW HT_.out HW_.out (by kernel_rfl)) (fun _ _ _ h => h) (Or.inl ⟨by rfl, ?_⟩) hHeld ?_ ?_; rotate_left
                           ·rintro w' ⟨s0, s1, s2, s3, s4, s5, s6, s7, s8, s9, s10, s11, s12, s13, s14, s15⟩
                            go_simp; with_reducible rfl
                           rotate_left
                           ·simp only [Act.put, qa37, qb37, qc37, i64_w, i32_w]
                            rfl
                           refine take_ (i := 11) (N := some 115) (v := ?_) (a' := ?_) q37_12 rfl rfl (take_ofW HT_.out HW_.out (by kernel_rfl)) (fun _ _ _ h => h) (Or.inl ⟨by rfl, ?_⟩) hHeld ?_ ?_; rotate_left
                           ·rintro w' ⟨s0, s1, s2, s3, s4, s5, s6, s7, s8, s9, s10, s11, s12, s13, s14, s15⟩
                            go_simp; with_reducible rfl
                           rotate_left
                           ·simp only [Act.put, qa37, qb37, qc37, i64_w, i32_w]
                            rfl
                           refine pure_ (i := 12) (N := some 116) (v := ?_) (a' := ?_) q37_13 rfl rfl (any_of HT_.out (by kernel_rfl)) (fun _ _ _ h => h) (Or.inl ⟨by rfl, ?_⟩) ?_ ?_; rotate_left
                           ·intro w'
                            go_simp; with_reducible rfl
                           rotate_left
                           ·simp only [Act.put, qa37, qb37, qc37, i64_w, i32_w]
                            rfl
                           refine take_ (i := 13) (N := some 117) (v := ?_) (a' := ?_) q37_14 rfl rfl (take_ofW HT_.out HW_.out (by kernel_rfl)) (fun _ _ _ h => h) (Or.inl ⟨by rfl, ?_⟩) hHeld ?_ ?_; rotate_left
                           ·rintro w' ⟨s0, s1, s2, s3, s4, s5, s6, s7, s8, s9, s10, s11, s12, s13, s14, s15⟩
                            go_simp; with_reducible rfl
                           rotate_left
                           ·simp only [Act.put, qa37, qb37, qc37, i64_w, i32_w]
                            rfl
                           refine pure_ (i := 14) (N := some 118) (v := ?_) (a' := ?_) q37_15 rfl rfl (any_of HT_.out (by kernel_rfl)) (fun _ _ _ h => h) (Or.inl ⟨by rfl, ?_⟩) ?_ ?_; rotate_left
                           ·intro w'
                            go_simp; with_reducible rfl
                           rotate_left
                           ·simp only [Act.put, qa37, qb37, qc37, i64_w, i32_w]
                            rfl
                           refine one_ (i := 15) (N := some 119) q37_16 rfl rfl (one_of HT_.out (by kernel_rfl)) (by decide) (fun K hK => ?_)
                           refine value_ (w1 := ?_) (v := ?_) (by rfl) rfl ?_ ?_
                           rotate_left 2
                           ·go_simp
                            constructor
                            ·rfl
                            ·rfl
                           refine hK.out _ _ ⟨(blk_cell (blk_alloc BK117.out _) 0).trans rfl, (blk_cell (blk_alloc BK117.out _) 1).trans rfl, (blk_cell (blk_alloc BK117.out _) 2).trans rfl, (blk_cell (blk_alloc BK122.out _) 0).trans rfl, (blk_cell (blk_alloc BK122.out _) 1).trans rfl, (blk_cell (blk_alloc BK122.out _) 2).trans rfl, (blk_cell (blk_alloc BK122.out _) 3).trans rfl, (blk_cell (blk_alloc BK122.out _) 4).trans rfl, (blk_cell (blk_alloc BK122.out _) 5).trans rfl, (blk_cell (blk_alloc BK122.out _) 6).trans rfl, (blk_cell (blk_alloc BK122.out _) 7).trans rfl, (blk_cell (blk_alloc BK122.out _) 8).trans rfl, (blk_cell (blk_alloc BK122.out _) 9).trans rfl, (blk_cell (blk_alloc BK122.out _) 10).trans rfl, (World.cell?_alloc_lt _ _ _ (World.block_lt_of_cell? _ _ (hHeld.2.2.2.2.2.2.2.2.2.2.2.2.2.2.1))).trans (hHeld.2.2.2.2.2.2.2.2.2.2.2.2.2.2.1), (World.cell?_alloc_lt _ _ _ (World.block_lt_of_cell? _ _ (hHeld.2.2.2.2.2.2.2.2.2.2.2.2.2.2.2))).trans (hHeld.2.2.2.2.2.2.2.2.2.2.2.2.2.2.2)⟩ (fun hHeld => ?_)
                           clear hK K
                           refine norm_ (a' := ?_) ?_ ?_; rotate_left
                           ·show Act.put _ (some 119) _ = _
                            simp only [Act.put, qa37, qb37, qc37, i64_w, i32_w]
                            rfl
                           refine last_ (i := 16) (N := some 120) q37_17 rfl rfl (one_of HT_.out (by kernel_rfl)) (by decide) (fun K hK => ?_)
                           refine Kd.R_append_step k46 (w0 := w) w.heap.size (by rfl) (.tmp 105) (.tmp 119) 33 46 (.agg #[(.int .i64 0), (.int .i64 0), (.int .i64 0), (.int .i64 0), (.int .i64 0), (.int .i64 0), (.int .i64 0), (.int .i64 0), (.int .i64 0), (.int .i64 0), (.int .i64 0)]) 88 rfl Try.underlying33 info46 rfl (by decide) (by omega) (.slice Ao85 x118001_4.length co85) x118001_4 (⟨(⟨(rd_T46 l0_1 x85_4).f0.f0, (rd_T46 l0_1 x85_4).f0.f1, (rd_T46 l0_1 x85_4).f0.f2, (rd_T46 l0_1 x85_4).f0.f3, (rd_T46 l0_1 x85_4).f0.f4, (rd_T46 l0_1 x85_4).f0.f5, (rd_T46 l0_1 x85_4).f0.f6, (rd_T46 l0_1 x85_4).f0.f7, (rd_T46 l0_1 x85_4).f0.f8⟩ : S23), rd y123 ((rd_T46 l0_1 x85_4).f1), rd y123 ((rd_T46 l0_1 x85_4).f2)⟩ : S46) [.int .i64 ((rd_T46 l0_1 x85_4).f0.f0), .int .i64 ((rd_T46 l0_1 x85_4).f0.f1), .int .i64 ((rd_T46 l0_1 x85_4).f0.f2), .int .i64 ((rd_T46 l0_1 x85_4).f0.f3), .int .i64 ((rd_T46 l0_1 x85_4).f0.f4), .int .i64 ((rd_T46 l0_1 x85_4).f0.f5), .int .i64 ((rd_T46 l0_1 x85_4).f0.f6), .int .i64 ((rd_T46 l0_1 x85_4).f0.f7), .int .i64 ((rd_T46 l0_1 x85_4).f0.f8), .int .i64 (rd y123 ((rd_T46 l0_1 x85_4).f1)), .int .i64 (rd y123 ((rd_T46 l0_1 x85_4).f2))] (fun k_ => k_ ≠ gb122) (fun _ => False) rfl rfl ?aP (fun _ hk => hk.elim) ?aF ?aO ?aB ?aS ?aL ?_
                           (case aP => exact k46_mkM _ _ _ (⟨(⟨(rd_T46 l0_1 x85_4).f0.f0, (rd_T46 l0_1 x85_4).f0.f1, (rd_T46 l0_1 x85_4).f0.f2, (rd_T46 l0_1 x85_4).f0.f3, (rd_T46 l0_1 x85_4).f0.f4, (rd_T46 l0_1 x85_4).f0.f5, (rd_T46 l0_1 x85_4).f0.f6, (rd_T46 l0_1 x85_4).f0.f7, (rd_T46 l0_1 x85_4).f0.f8⟩ : S23), rd y123 ((rd_T46 l0_1 x85_4).f1), rd y123 ((rd_T46 l0_1 x85_4).f2)⟩ : S46))
                           (case aB => exact (bB HB.out))
                           (case aF => exact (fun k_ hk => Kd.freshB (g := gb122) (o := .cells #[.int .i64 ((rd_T46 l0_1 x85_4).f0.f0), .int .i64 ((rd_T46 l0_1 x85_4).f0.f1), .int .i64 ((rd_T46 l0_1 x85_4).f0.f2), .int .i64 ((rd_T46 l0_1 x85_4).f0.f3), .int .i64 ((rd_T46 l0_1 x85_4).f0.f4), .int .i64 ((rd_T46 l0_1 x85_4).f0.f5), .int .i64 ((rd_T46 l0_1 x85_4).f0.f6), .int .i64 ((rd_T46 l0_1 x85_4).f0.f7), .int .i64 ((rd_T46 l0_1 x85_4).f0.f8), .int .i64 ((rd_T46 l0_1 x85_4).f1), .int .i64 ((rd_T46 l0_1 x85_4).f2)] 46 (0, 0)) (bA BK122.out) k_ hk))
                           (case aO => exact (bC (Kd.R_mono HO_118001.out (fun _ hk => hk.2))))
                           (case aS => exact (below_size (bB HB.out)))
                           (case aL => have := LMc76.out; omega)
                           intro v130 w90 ho hb hg hat
                           rw [← Ny129.out] at ho
                           have n0_ := am (Kd.R_over' (bC HO_4.out) (Kd.R_typed (bC HO_118001.out)) (by decide) hg); have n1_ := am (blk_grown (g := gb101) (o := .cells #[.int .i64 a0_0, .slice (some ad121) l0_1.length c0_1, .slice A0_2 l0_2.length c0_2] 35 (0, 0)) (bA BK101.out) hg (Kd.R_ne HO_118001.out BK101.out (by decide))); have n2_ := am (blk_grown (g := gb102) (o := .cells #[.int .i64 0, .slice none 0 0, .slice none 0 0] 35 (0, 0)) (bA BK102.out) hg (Kd.R_ne HO_118001.out BK102.out (by decide))); have n3_ := am (blk_grown (g := gb117) (o := .cells #[.int .i64 a0_0, .slice Ao85 x118001_4.length co85, .slice none 0 0] 35 (0, 0)) (bA BK117.out) hg (Kd.R_ne HO_118001.out BK117.out (by decide))); have n4_ := am (blk_grown (g := gb122) (o := .cells #[.int .i64 ((rd_T46 l0_1 x85_4).f0.f0), .int .i64 ((rd_T46 l0_1 x85_4).f0.f1), .int .i64 ((rd_T46 l0_1 x85_4).f0.f2), .int .i64 ((rd_T46 l0_1 x85_4).f0.f3), .int .i64 ((rd_T46 l0_1 x85_4).f0.f4), .int .i64 ((rd_T46 l0_1 x85_4).f0.f5), .int .i64 ((rd_T46 l0_1 x85_4).f0.f6), .int .i64 ((rd_T46 l0_1 x85_4).f0.f7), .int .i64 ((rd_T46 l0_1 x85_4).f0.f8), .int .i64 ((rd_T46 l0_1 x85_4).f1), .int .i64 ((rd_T46 l0_1 x85_4).f2)] 46 (0, 0)) (bA BK122.out) hg (Kd.R_away HO_118001.out (fun _ hk => hk.2))); have n5_ := am (Kd.R_over' (bC HO125.out) (Kd.R_typed (bC HO_118001.out)) (by decide) hg); have n6_ := am (hb); have n7_ := am (ho); clear HO_4; clear BK101; clear BK102; clear BK117; clear BK122; clear HO125; clear HB; clear HO_118001; have HO_4 := n0_; have BK101 := n1_; have BK102 := n2_; have BK117 := n3_; have BK122 := n4_; have HO125 := n5_; have HB := n6_; have HO131 := n7_; clear n0_ n1_ n2_ n3_ n4_ n5_ n6_ n7_; clear ho hb hg hat
                           obtain ⟨Ao91, co91, eo91⟩ := Kd.R_slice HO131.out
                           (first | subst eo91 | (injection eo91 with f1_ f2_ f3_; have f4_ := f1_.symm; have f5_ := f3_.symm; clear f1_ f2_ f3_; subst f4_; subst f5_))
                           refine hK.out _ _ ?_
                           clear hK K
                           refine norm_ (a' := ?_) ?_ ?_; rotate_left
                           ·show Act.put _ (some 120) _ = _
                            simp only [Act.put, qa37, qb37, qc37, i64_w, i32_w]
                            rfl
                           refine pure_ (i := 17) (N := some 121) (v := ?_) (a' := ?_) q37_18 rfl rfl (any_of HT_.out (by kernel_rfl)) (fun _ _ _ h => h) (Or.inl ⟨by rfl, ?_⟩) ?_ ?_; rotate_left
                           ·intro w'
                            go_simp; with_reducible rfl
                           rotate_left
                           ·simp only [Act.put, qa37, qb37, qc37, i64_w, i32_w]
                            rfl
                           refine last_ (i := 18) (N := none) q37_19 rfl rfl (one_of HT_.out (by kernel_rfl)) (by decide) (fun K hK => ?_)
                           have hs92 : w90.cell? ⟨gb117, 1, none⟩ = some (.slice Ao85 x118001_4.length co85) := (blk_cell BK117.out 1).trans rfl
                           have hfs92 := blk_frozen BK117.out 1; have hns92_0 := NB101_117.out; have hns92_1 := NB102_117.out; have hns92_3 := NB122_117.out; have hms92_0 := NB117_101.out; have hms92_1 := NB117_102.out; have hms92_3 := NB117_122.out
                           refine skip_ (w1 := ?_) (by rfl) rfl ?_ ?_; rotate_left
                           ·go_simp
                            rfl
                           refine hK.out _ _ ?_
                           clear hK K
                           refine done_ (done_of HT_.out (by kernel_rfl)) ?_
                           try go_wp2
                           go_roundg k4
                           case measure => have := HK1.out; have := HK2.out; have := HK3.out; have := HK4.out; omega
                           case rel => exact ⟨(y123), (wrap64 (x85_4 + 1)), (y129), (.slice Ao91 y129.length co91), (by first | rfl | (simp; done) | (simp [*]; done)), H', ⟨by have := HK1.out; have := HK2.out; have := HK3.out; have := HK4.out; omega⟩, ⟨by (with_reducible repeat (first | apply Kd.R_alloc | apply Kd.R_drewN | apply Kd.R_drew)); exact Kd.R_mono (Kd.R_far (p := ⟨gb117, 1, none⟩) (Kd.R_types HO_4.out BK117.out (by decide)) (fun _ hk => hk.2) (.slice Ao91 y129.length co91)) (fun _ hk => trivial)⟩, ⟨by (with_reducible repeat (first | apply Kd.R_alloc | apply Kd.R_drewN | apply Kd.R_drew)); exact Kd.R_mono (Kd.R_far (p := ⟨gb117, 1, none⟩) (Kd.R_types HO125.out BK117.out (by decide)) (fun _ hk => hk.2) (.slice Ao91 y129.length co91)) (fun _ hk => trivial)⟩, ⟨by (with_reducible repeat (first | apply Kd.R_alloc | apply Kd.R_drewN | apply Kd.R_drew)); exact Kd.R_mono (Kd.R_far (p := ⟨gb117, 1, none⟩) (Kd.R_types HO131.out BK117.out (by decide)) (fun _ hk => hk.2) (.slice Ao91 y129.length co91)) (fun _ hk => trivial)⟩, ⟨by (with_reducible repeat (first | refine blk_drewN ?_ _ | refine blk_drew ?_ | refine blk_alloc ?_ _)); refine blk_far ?_ NB101_117.out _; (with_reducible repeat (first | refine blk_drewN ?_ _ | refine blk_drew ?_ | refine blk_alloc ?_ _)); exact BK101.out⟩, ⟨by (with_reducible repeat (first | refine blk_drewN ?_ _ | refine blk_drew ?_ | refine blk_alloc ?_ _)); refine blk_far ?_ NB102_117.out _; (with_reducible repeat (first | refine blk_drewN ?_ _ | refine blk_drew ?_ | refine blk_alloc ?_ _)); exact BK102.out⟩, ⟨by (with_reducible repeat (first | refine blk_drewN ?_ _ | refine blk_drew ?_ | refine blk_alloc ?_ _)); refine blk_put (cs := #[.int .i64 a0_0, .slice Ao85 x118001_4.length co85, .slice none 0 0]) ?_ 1 _ rfl; (with_reducible repeat (first | refine blk_drewN ?_ _ | refine blk_drew ?_ | refine blk_alloc ?_ _)); exact BK117.out⟩, ⟨bB HB.out⟩⟩
                          ·rw [if_neg c76] at H
                           exact absurd H (by simp)
                         ·rw [if_neg c75] at H
                          exact absurd H (by simp)
                        ·rw [if_neg c74] at H
                         exact absurd H (by simp)
                       ·rw [if_neg c73] at H
                        exact absurd H (by simp)
                      ·rw [if_neg c72] at H
                       exact absurd H (by simp)
                     ·replace c71 := Bool.eq_false_iff.mpr c71
                      subst c71
                      have H1 : (spec_TrimCircuit.l3 k4 (wrap64 (3 + a0_0)) x4_2 y123 l0_1 (l0_1.length : Int) (wrap64 (x85_4 + 1)) a0_0 l0_1 l0_2 a0_0 x118001_4) = some (r1, r2, r3) := by rw [if_neg (show ¬ (false = true) by decide)] at H; exact H
                      clear H; have H := H1; clear H1
                      have H' := am H
                      clear H
                      have p121 : 0 ≤ (x85_4 : Int) := of_decide_eq_true (by first | with_reducible assumption | assumption)
                      have q121 : x85_4 < (l0_1.length : Int) := of_decide_eq_true (by first | with_reducible assumption | assumption)
                      obtain ⟨ad121, e121, hx121_0, hx121_1, hx121_2, hx121_3, hx121_4, hx121_5, hx121_6, hx121_7, hx121_8, hx121_9, hx121_10⟩ := at_T46 HR0_1.out x85_4 p121 q121
                      cases e121
                      replace hx121_0 := (HB.out.cell (World.block_lt_of_cell? w _ hx121_0)).trans hx121_0
                      replace hx121_1 := (HB.out.cell (World.block_lt_of_cell? w _ hx121_1)).trans hx121_1
                      replace hx121_2 := (HB.out.cell (World.block_lt_of_cell? w _ hx121_2)).trans hx121_2
                      replace hx121_3 := (HB.out.cell (World.block_lt_of_cell? w _ hx121_3)).trans hx121_3
                      replace hx121_4 := (HB.out.cell (World.block_lt_of_cell? w _ hx121_4)).trans hx121_4
                      replace hx121_5 := (HB.out.cell (World.block_lt_of_cell? w _ hx121_5)).trans hx121_5
                      replace hx121_6 := (HB.out.cell (World.block_lt_of_cell? w _ hx121_6)).trans hx121_6
                      replace hx121_7 := (HB.out.cell (World.block_lt_of_cell? w _ hx121_7)).trans hx121_7
                      replace hx121_8 := (HB.out.cell (World.block_lt_of_cell? w _ hx121_8)).trans hx121_8
                      replace hx121_9 := (HB.out.cell (World.block_lt_of_cell? w _ hx121_9)).trans hx121_9
                      replace hx121_10 := (HB.out.cell (World.block_lt_of_cell? w _ hx121_10)).trans hx121_10
                      replace p121 := eq_true p121
                      replace q121 := eq_true q121
                      go_wp2_with (first | ((with_reducible refine gate_dst (N := 12) rfl ?_); refine box_event ?hg (N := 12) ?hd (cs := #[.int .i64 0, .int .i64 0, .int .i64 0, .int .i64 0, .int .i64 0, .int .i64 0, .int .i64 0, .int .i64 0, .int .i64 0, .int .i64 0, .int .i64 0]) (t := 46) ?hr ?_; (case hd => rfl); (case hg => rfl); (case hr => first | (go_simp; done) | (go_simp; rfl)); intro gb122 hg w93 hbox hb; have n0_ := am (Kd.R_below (bC HO_4.out) hb); have n1_ := am (Kd.R_below (bC HO_8.out) hb); have n2_ := am (Kd.R_below (Kd.R_elderB (bC HO_118001.out) gb122 (Nat.le_of_eq hg.symm)) hb); have n3_ := am (blk_below (bA BK101.out) hb); have n4_ := am (blk_below (bA BK102.out) hb); have n5_ := am (blk_below (bA BK117.out) hb); have n6_ := am (below_step (bB HB.out) hb); have n7_ := am (hbox); have n8_ := am ((by rw [hg]; exact (below_size (bB HB.out)) : w.heap.size ≤ gb122)); have n9_ := am ((by rw [hg]; exact (below_size (bB HB.out)) : w.heap.size ≤ gb122)); have n10_ := am ((by rw [hg]; exact Nat.ne_of_lt (blk_lt (g := gb101) (o := .cells #[.int .i64 a0_0, .slice (some ad121) l0_1.length c0_1, .slice A0_2 l0_2.length c0_2] 35 (0, 0)) (bA BK101.out)) : gb101 ≠ gb122)); have n11_ := am ((by rw [hg]; exact Nat.ne_of_gt (blk_lt (g := gb101) (o := .cells #[.int .i64 a0_0, .slice (some ad121) l0_1.length c0_1, .slice A0_2 l0_2.length c0_2] 35 (0, 0)) (bA BK101.out)) : gb122 ≠ gb101)); have n12_ := am ((by rw [hg]; exact Nat.ne_of_lt (blk_lt (g := gb102) (o := .cells #[.int .i64 0, .slice none 0 0, .slice none 0 0] 35 (0, 0)) (bA BK102.out)) : gb102 ≠ gb122)); have n13_ := am ((by rw [hg]; exact Nat.ne_of_gt (blk_lt (g := gb102) (o := .cells #[.int .i64 0, .slice none 0 0, .slice none 0 0] 35 (0, 0)) (bA BK102.out)) : gb122 ≠ gb102)); have n14_ := am ((by rw [hg]; exact Nat.ne_of_lt (blk_lt (g := gb117) (o := .cells #[.int .i64 a0_0, u118001, .slice none 0 0] 35 (0, 0)) (bA BK117.out)) : gb117 ≠ gb122)); have n15_ := am ((by rw [hg]; exact Nat.ne_of_gt (blk_lt (g := gb117) (o := .cells #[.int .i64 a0_0, u118001, .slice none 0 0] 35 (0, 0)) (bA BK117.out)) : gb122 ≠ gb117)); clear HO_4; clear HO_8; clear HO_118001; clear BK101; clear BK102; clear BK117; clear HB; have HO_4 := n0_; have HO_8 := n1_; have HO_118001 := n2_; have BK101 := n3_; have BK102 := n4_; have BK117 := n5_; have HB := n6_; have BK122 := n7_; have GW122 := n8_; have GE122 := n9_; have NB101_122 := n10_; have NB122_101 := n11_; have NB102_122 := n12_; have NB122_102 := n13_; have NB117_122 := n14_; have NB122_117 := n15_; clear n0_ n1_ n2_ n3_ n4_ n5_ n6_ n7_ n8_ n9_ n10_ n11_ n12_ n13_ n14_ n15_; clear hb hbox hg; have hnb94 := NB122_101.out; have hnc94 := NB101_122.out; have hnb95 := NB122_102.out; have hnc95 := NB102_122.out; have hnb96 := NB122_117.out; have hnc96 := NB117_122.out; have hcz97_0 : w93.cell? ⟨gb122, 0, none⟩ = some (.int .i64 0) := (blk_cell BK122.out 0).trans rfl; have hcz97_1 : w93.cell? ⟨gb122, 1, none⟩ = some (.int .i64 0) := (blk_cell BK122.out 1).trans rfl; have hcz97_2 : w93.cell? ⟨gb122, 2, none⟩ = some (.int .i64 0) := (blk_cell BK122.out 2).trans rfl; have hcz97_3 : w93.cell? ⟨gb122, 3, none⟩ = some (.int .i64 0) := (blk_cell BK122.out 3).trans rfl; have hcz97_4 : w93.cell? ⟨gb122, 4, none⟩ = some (.int .i64 0) := (blk_cell BK122.out 4).trans rfl; have hcz97_5 : w93.cell? ⟨gb122, 5, none⟩ = some (.int .i64 0) := (blk_cell BK122.out 5).trans rfl; have hcz97_6 : w93.cell? ⟨gb122, 6, none⟩ = some (.int .i64 0) := (blk_cell BK122.out 6).trans rfl; have hcz97_7 : w93.cell? ⟨gb122, 7, none⟩ = some (.int .i64 0) := (blk_cell BK122.out 7).trans rfl; have hcz97_8 : w93.cell? ⟨gb122, 8, none⟩ = some (.int .i64 0) := (blk_cell BK122.out 8).trans rfl; have hcz97_9 : w93.cell? ⟨gb122, 9, none⟩ = some (.int .i64 0) := (blk_cell BK122.out 9).trans rfl; have hcz97_10 : w93.cell? ⟨gb122, 10, none⟩ = some (.int .i64 0) := (blk_cell BK122.out 10).trans rfl; have hfz97_0 := blk_frozen BK122.out 0; have hfz97_1 := blk_frozen BK122.out 1; have hfz97_2 := blk_frozen BK122.out 2; have hfz97_3 := blk_frozen BK122.out 3; have hfz97_4 := blk_frozen BK122.out 4; have hfz97_5 := blk_frozen BK122.out 5; have hfz97_6 := blk_frozen BK122.out 6; have hfz97_7 := blk_frozen BK122.out 7; have hfz97_8 := blk_frozen BK122.out 8; have hfz97_9 := blk_frozen BK122.out 9; have hfz97_10 := blk_frozen BK122.out 10; have hnb98 := NB117_101.out; have hnc98 := NB101_117.out; have hnb99 := NB117_102.out; have hnc99 := NB102_117.out; have hcz100_0 : w93.cell? ⟨gb117, 0, none⟩ = some (.int .i64 a0_0) := (blk_cell BK117.out 0).trans rfl; have hcz100_1 : w93.cell? ⟨gb117, 1, none⟩ = some (u118001) := (blk_cell BK117.out 1).trans rfl; have hcz100_2 : w93.cell? ⟨gb117, 2, none⟩ = some (.slice none 0 0) := (blk_cell BK117.out 2).trans rfl; have hfz100_0 := blk_frozen BK117.out 0; have hfz100_1 := blk_frozen BK117.out 1; have hfz100_2 := blk_frozen BK117.out 2; obtain ⟨Ao101, co101, eo101⟩ := Kd.R_slice HO_118001.out; subst eo101) | ((with_reducible refine gate_builtin (b := .append) (xs := #[.tmp 90, .tmp 96]) rfl ?_); at_builtin; refine Kd.R_append (Kd.int .i64) (w0 := w) w.heap.size rfl (.tmp 90) (.tmp 96) 28 3 (.int .i64 0) 8 rfl Try.underlying28 info3 rfl (by decide) (by omega) u8 x8_4 (wrap64 ((wrap64 (3 + a0_0)) + (x118001_4.length : Int))) [.int .i64 (wrap64 ((wrap64 (3 + a0_0)) + (x118001_4.length : Int)))] (fun _ => True) (fun _ => False) rfl (by first | (go_simp; done) | (go_simp; rfl)) ?aP (fun _ hk => hk.elim) ?aF ?aO ?aB ?aS ?aL ?_; (case aP => exact rfl); (case aB => exact (bB HB.out)); (case aF => exact (fun _ _ => trivial)); (case aO => exact (bC (Kd.R_mono (Kd.R_far (p := ⟨gb122, 10, none⟩) (Kd.R_far (p := ⟨gb122, 9, none⟩) (Kd.R_far (p := ⟨gb122, 8, none⟩) (Kd.R_far (p := ⟨gb122, 7, none⟩) (Kd.R_far (p := ⟨gb122, 6, none⟩) (Kd.R_far (p := ⟨gb122, 5, none⟩) (Kd.R_far (p := ⟨gb122, 4, none⟩) (Kd.R_far (p := ⟨gb122, 3, none⟩) (Kd.R_far (p := ⟨gb122, 2, none⟩) (Kd.R_far (p := ⟨gb122, 1, none⟩) (Kd.R_far (p := ⟨gb122, 0, none⟩) (Kd.R_types HO_8.out BK122.out (by decide)) (fun _ hk => hk.2) (.int .i64 ((rd_T46 l0_1 x85_4).f0.f0))) (fun _ hk => hk.2) (.int .i64 ((rd_T46 l0_1 x85_4).f0.f1))) (fun _ hk => hk.2) (.int .i64 ((rd_T46 l0_1 x85_4).f0.f2))) (fun _ hk => hk.2) (.int .i64 ((rd_T46 l0_1 x85_4).f0.f3))) (fun _ hk => hk.2) (.int .i64 ((rd_T46 l0_1 x85_4).f0.f4))) (fun _ hk => hk.2) (.int .i64 ((rd_T46 l0_1 x85_4).f0.f5))) (fun _ hk => hk.2) (.int .i64 ((rd_T46 l0_1 x85_4).f0.f6))) (fun _ hk => hk.2) (.int .i64 ((rd_T46 l0_1 x85_4).f0.f7))) (fun _ hk => hk.2) (.int .i64 ((rd_T46 l0_1 x85_4).f0.f8))) (fun _ hk => hk.2) (.int .i64 ((rd_T46 l0_1 x85_4).f1))) (fun _ hk => hk.2) (.int .i64 ((rd_T46 l0_1 x85_4).f2))) (fun _ hk => trivial)))); (case aS => exact (below_size (bB HB.out))); (case aL => have := LMc66.out; omega); intro v124 w102 ho hb hg hat; rw [← Ny123.out] at ho; have n0_ := am (Kd.R_over' (bC ((Kd.R_mono (Kd.R_far (p := ⟨gb122, 10, none⟩) (Kd.R_far (p := ⟨gb122, 9, none⟩) (Kd.R_far (p := ⟨gb122, 8, none⟩) (Kd.R_far (p := ⟨gb122, 7, none⟩) (Kd.R_far (p := ⟨gb122, 6, none⟩) (Kd.R_far (p := ⟨gb122, 5, none⟩) (Kd.R_far (p := ⟨gb122, 4, none⟩) (Kd.R_far (p := ⟨gb122, 3, none⟩) (Kd.R_far (p := ⟨gb122, 2, none⟩) (Kd.R_far (p := ⟨gb122, 1, none⟩) (Kd.R_far (p := ⟨gb122, 0, none⟩) (Kd.R_types HO_4.out BK122.out (by decide)) (fun _ hk => hk.2) (.int .i64 ((rd_T46 l0_1 x85_4).f0.f0))) (fun _ hk => hk.2) (.int .i64 ((rd_T46 l0_1 x85_4).f0.f1))) (fun _ hk => hk.2) (.int .i64 ((rd_T46 l0_1 x85_4).f0.f2))) (fun _ hk => hk.2) (.int .i64 ((rd_T46 l0_1 x85_4).f0.f3))) (fun _ hk => hk.2) (.int .i64 ((rd_T46 l0_1 x85_4).f0.f4))) (fun _ hk => hk.2) (.int .i64 ((rd_T46 l0_1 x85_4).f0.f5))) (fun _ hk => hk.2) (.int .i64 ((rd_T46 l0_1 x85_4).f0.f6))) (fun _ hk => hk.2) (.int .i64 ((rd_T46 l0_1 x85_4).f0.f7))) (fun _ hk => hk.2) (.int .i64 ((rd_T46 l0_1 x85_4).f0.f8))) (fun _ hk => hk.2) (.int .i64 ((rd_T46 l0_1 x85_4).f1))) (fun _ hk => hk.2) (.int .i64 ((rd_T46 l0_1 x85_4).f2))) (fun _ h_ => h_.1)))) (Kd.R_typed (bC ((Kd.R_mono (Kd.R_far (p := ⟨gb122, 10, none⟩) (Kd.R_far (p := ⟨gb122, 9, none⟩) (Kd.R_far (p := ⟨gb122, 8, none⟩) (Kd.R_far (p := ⟨gb122, 7, none⟩) (Kd.R_far (p := ⟨gb122, 6, none⟩) (Kd.R_far (p := ⟨gb122, 5, none⟩) (Kd.R_far (p := ⟨gb122, 4, none⟩) (Kd.R_far (p := ⟨gb122, 3, none⟩) (Kd.R_far (p := ⟨gb122, 2, none⟩) (Kd.R_far (p := ⟨gb122, 1, none⟩) (Kd.R_far (p := ⟨gb122, 0, none⟩) (Kd.R_types HO_8.out BK122.out (by decide)) (fun _ hk => hk.2) (.int .i64 ((rd_T46 l0_1 x85_4).f0.f0))) (fun _ hk => hk.2) (.int .i64 ((rd_T46 l0_1 x85_4).f0.f1))) (fun _ hk => hk.2) (.int .i64 ((rd_T46 l0_1 x85_4).f0.f2))) (fun _ hk => hk.2) (.int .i64 ((rd_T46 l0_1 x85_4).f0.f3))) (fun _ hk => hk.2) (.int .i64 ((rd_T46 l0_1 x85_4).f0.f4))) (fun _ hk => hk.2) (.int .i64 ((rd_T46 l0_1 x85_4).f0.f5))) (fun _ hk => hk.2) (.int .i64 ((rd_T46 l0_1 x85_4).f0.f6))) (fun _ hk => hk.2) (.int .i64 ((rd_T46 l0_1 x85_4).f0.f7))) (fun _ hk => hk.2) (.int .i64 ((rd_T46 l0_1 x85_4).f0.f8))) (fun _ hk => hk.2) (.int .i64 ((rd_T46 l0_1 x85_4).f1))) (fun _ hk => hk.2) (.int .i64 ((rd_T46 l0_1 x85_4).f2))) (fun _ h_ => h_.1))))) (by decide) hg); have n1_ := am (Kd.R_over' (bC ((Kd.R_mono (Kd.R_far (p := ⟨gb122, 10, none⟩) (Kd.R_far (p := ⟨gb122, 9, none⟩) (Kd.R_far (p := ⟨gb122, 8, none⟩) (Kd.R_far (p := ⟨gb122, 7, none⟩) (Kd.R_far (p := ⟨gb122, 6, none⟩) (Kd.R_far (p := ⟨gb122, 5, none⟩) (Kd.R_far (p := ⟨gb122, 4, none⟩) (Kd.R_far (p := ⟨gb122, 3, none⟩) (Kd.R_far (p := ⟨gb122, 2, none⟩) (Kd.R_far (p := ⟨gb122, 1, none⟩) (Kd.R_far (p := ⟨gb122, 0, none⟩) (Kd.R_mono HO_118001.out (fun k_ hk => (⟨hk, hk.2⟩ : _ ∧ k_ ≠ gb122))) (fun _ hk => hk.2) (.int .i64 ((rd_T46 l0_1 x85_4).f0.f0))) (fun _ hk => hk.2) (.int .i64 ((rd_T46 l0_1 x85_4).f0.f1))) (fun _ hk => hk.2) (.int .i64 ((rd_T46 l0_1 x85_4).f0.f2))) (fun _ hk => hk.2) (.int .i64 ((rd_T46 l0_1 x85_4).f0.f3))) (fun _ hk => hk.2) (.int .i64 ((rd_T46 l0_1 x85_4).f0.f4))) (fun _ hk => hk.2) (.int .i64 ((rd_T46 l0_1 x85_4).f0.f5))) (fun _ hk => hk.2) (.int .i64 ((rd_T46 l0_1 x85_4).f0.f6))) (fun _ hk => hk.2) (.int .i64 ((rd_T46 l0_1 x85_4).f0.f7))) (fun _ hk => hk.2) (.int .i64 ((rd_T46 l0_1 x85_4).f0.f8))) (fun _ hk => hk.2) (.int .i64 ((rd_T46 l0_1 x85_4).f1))) (fun _ hk => hk.2) (.int .i64 ((rd_T46 l0_1 x85_4).f2))) (fun _ h_ => h_.1)))) (Kd.R_typed (bC ((Kd.R_mono (Kd.R_far (p := ⟨gb122, 10, none⟩) (Kd.R_far (p := ⟨gb122, 9, none⟩) (Kd.R_far (p := ⟨gb122, 8, none⟩) (Kd.R_far (p := ⟨gb122, 7, none⟩) (Kd.R_far (p := ⟨gb122, 6, none⟩) (Kd.R_far (p := ⟨gb122, 5, none⟩) (Kd.R_far (p := ⟨gb122, 4, none⟩) (Kd.R_far (p := ⟨gb122, 3, none⟩) (Kd.R_far (p := ⟨gb122, 2, none⟩) (Kd.R_far (p := ⟨gb122, 1, none⟩) (Kd.R_far (p := ⟨gb122, 0, none⟩) (Kd.R_types HO_8.out BK122.out (by decide)) (fun _ hk => hk.2) (.int .i64 ((rd_T46 l0_1 x85_4).f0.f0))) (fun _ hk => hk.2) (.int .i64 ((rd_T46 l0_1 x85_4).f0.f1))) (fun _ hk => hk.2) (.int .i64 ((rd_T46 l0_1 x85_4).f0.f2))) (fun _ hk => hk.2) (.int .i64 ((rd_T46 l0_1 x85_4).f0.f3))) (fun _ hk => hk.2) (.int .i64 ((rd_T46 l0_1 x85_4).f0.f4))) (fun _ hk => hk.2) (.int .i64 ((rd_T46 l0_1 x85_4).f0.f5))) (fun _ hk => hk.2) (.int .i64 ((rd_T46 l0_1 x85_4).f0.f6))) (fun _ hk => hk.2) (.int .i64 ((rd_T46 l0_1 x85_4).f0.f7))) (fun _ hk => hk.2) (.int .i64 ((rd_T46 l0_1 x85_4).f0.f8))) (fun _ hk => hk.2) (.int .i64 ((rd_T46 l0_1 x85_4).f1))) (fun _ hk => hk.2) (.int .i64 ((rd_T46 l0_1 x85_4).f2))) (fun _ h_ => h_.1))))) (by decide) hg); have n2_ := am (blk_grown (g := gb101) (o := .cells #[.int .i64 a0_0, .slice (some ad121) l0_1.length c0_1, .slice A0_2 l0_2.length c0_2] 35 (0, 0)) (by (with_reducible repeat (first | refine blk_drewN ?_ _ | refine blk_drew ?_ | refine blk_alloc ?_ _)); refine blk_far ?_ NB101_122.out _; (with_reducible repeat (first | refine blk_drewN ?_ _ | refine blk_drew ?_ | refine blk_alloc ?_ _)); refine blk_far ?_ NB101_122.out _; (with_reducible repeat (first | refine blk_drewN ?_ _ | refine blk_drew ?_ | refine blk_alloc ?_ _)); refine blk_far ?_ NB101_122.out _; (with_reducible repeat (first | refine blk_drewN ?_ _ | refine blk_drew ?_ | refine blk_alloc ?_ _)); refine blk_far ?_ NB101_122.out _; (with_reducible repeat (first | refine blk_drewN ?_ _ | refine blk_drew ?_ | refine blk_alloc ?_ _)); refine blk_far ?_ NB101_122.out _; (with_reducible repeat (first | refine blk_drewN ?_ _ | refine blk_drew ?_ | refine blk_alloc ?_ _)); refine blk_far ?_ NB101_122.out _; (with_reducible repeat (first | refine blk_drewN ?_ _ | refine blk_drew ?_ | refine blk_alloc ?_ _)); refine blk_far ?_ NB101_122.out _; (with_reducible repeat (first | refine blk_drewN ?_ _ | refine blk_drew ?_ | refine blk_alloc ?_ _)); refine blk_far ?_ NB101_122.out _; (with_reducible repeat (first | refine blk_drewN ?_ _ | refine blk_drew ?_ | refine blk_alloc ?_ _)); refine blk_far ?_ NB101_122.out _; (with_reducible repeat (first | refine blk_drewN ?_ _ | refine blk_drew ?_ | refine blk_alloc ?_ _)); refine blk_far ?_ NB101_122.out _; (with_reducible repeat (first | refine blk_drewN ?_ _ | refine blk_drew ?_ | refine blk_alloc ?_ _)); refine blk_far ?_ NB101_122.out _; (with_reducible repeat (first | refine blk_drewN ?_ _ | refine blk_drew ?_ | refine blk_alloc ?_ _)); exact BK101.out) hg (Kd.R_ne HO_8.out BK101.out (by decide))); have n3_ := am (blk_grown (g := gb102) (o := .cells #[.int .i64 0, .slice none 0 0, .slice none 0 0] 35 (0, 0)) (by (with_reducible repeat (first | refine blk_drewN ?_ _ | refine blk_drew ?_ | refine blk_alloc ?_ _)); refine blk_far ?_ NB102_122.out _; (with_reducible repeat (first | refine blk_drewN ?_ _ | refine blk_drew ?_ | refine blk_alloc ?_ _)); refine blk_far ?_ NB102_122.out _; (with_reducible repeat (first | refine blk_drewN ?_ _ | refine blk_drew ?_ | refine blk_alloc ?_ _)); refine blk_far ?_ NB102_122.out _; (with_reducible repeat (first | refine blk_drewN ?_ _ | refine blk_drew ?_ | refine blk_alloc ?_ _)); refine blk_far ?_ NB102_122.out _; (with_reducible repeat (first | refine blk_drewN ?_ _ | refine blk_drew ?_ | refine blk_alloc ?_ _)); refine blk_far ?_ NB102_122.out _; (with_reducible repeat (first | refine blk_drewN ?_ _ | refine blk_drew ?_ | refine blk_alloc ?_ _)); refine blk_far ?_ NB102_122.out _; (with_reducible repeat (first | refine blk_drewN ?_ _ | refine blk_drew ?_ | refine blk_alloc ?_ _)); refine blk_far ?_ NB102_122.out _; (with_reducible repeat (first | refine blk_drewN ?_ _ | refine blk_drew ?_ | refine blk_alloc ?_ _)); refine blk_far ?_ NB102_122.out _; (with_reducible repeat (first | refine blk_drewN ?_ _ | refine blk_drew ?_ | refine blk_alloc ?_ _)); refine blk_far ?_ NB102_122.out _; (with_reducible repeat (first | refine blk_drewN ?_ _ | refine blk_drew ?_ | refine blk_alloc ?_ _)); refine blk_far ?_ NB102_122.out _; (with_reducible repeat (first | refine blk_drewN ?_ _ | refine blk_drew ?_ | refine blk_alloc ?_ _)); refine blk_far ?_ NB102_122.out _; (with_reducible repeat (first | refine blk_drewN ?_ _ | refine blk_drew ?_ | refine blk_alloc ?_ _)); exact BK102.out) hg (Kd.R_ne HO_8.out BK102.out (by decide))); have n4_ := am (blk_grown (g := gb117) (o := .cells #[.int .i64 a0_0, .slice Ao101 x118001_4.length co101, .slice none 0 0] 35 (0, 0)) (by (with_reducible repeat (first | refine blk_drewN ?_ _ | refine blk_drew ?_ | refine blk_alloc ?_ _)); refine blk_far ?_ NB117_122.out _; (with_reducible repeat (first | refine blk_drewN ?_ _ | refine blk_drew ?_ | refine blk_alloc ?_ _)); refine blk_far ?_ NB117_122.out _; (with_reducible repeat (first | refine blk_drewN ?_ _ | refine blk_drew ?_ | refine blk_alloc ?_ _)); refine blk_far ?_ NB117_122.out _; (with_reducible repeat (first | refine blk_drewN ?_ _ | refine blk_drew ?_ | refine blk_alloc ?_ _)); refine blk_far ?_ NB117_122.out _; (with_reducible repeat (first | refine blk_drewN ?_ _ | refine blk_drew ?_ | refine blk_alloc ?_ _)); refine blk_far ?_ NB117_122.out _; (with_reducible repeat (first | refine blk_drewN ?_ _ | refine blk_drew ?_ | refine blk_alloc ?_ _)); refine blk_far ?_ NB117_122.out _; (with_reducible repeat (first | refine blk_drewN ?_ _ | refine blk_drew ?_ | refine blk_alloc ?_ _)); refine blk_far ?_ NB117_122.out _; (with_reducible repeat (first | refine blk_drewN ?_ _ | refine blk_drew ?_ | refine blk_alloc ?_ _)); refine blk_far ?_ NB117_122.out _; (with_reducible repeat (first | refine blk_drewN ?_ _ | refine blk_drew ?_ | refine blk_alloc ?_ _)); refine blk_far ?_ NB117_122.out _; (with_reducible repeat (first | refine blk_drewN ?_ _ | refine blk_drew ?_ | refine blk_alloc ?_ _)); refine blk_far ?_ NB117_122.out _; (with_reducible repeat (first | refine blk_drewN ?_ _ | refine blk_drew ?_ | refine blk_alloc ?_ _)); refine blk_far ?_ NB117_122.out _; (with_reducible repeat (first | refine blk_drewN ?_ _ | refine blk_drew ?_ | refine blk_alloc ?_ _)); exact BK117.out) hg (Kd.R_ne HO_8.out BK117.out (by decide))); have n5_ := am (blk_grown (g := gb122) (o := .cells #[.int .i64 ((rd_T46 l0_1 x85_4).f0.f0), .int .i64 ((rd_T46 l0_1 x85_4).f0.f1), .int .i64 ((rd_T46 l0_1 x85_4).f0.f2), .int .i64 ((rd_T46 l0_1 x85_4).f0.f3), .int .i64 ((rd_T46 l0_1 x85_4).f0.f4), .int .i64 ((rd_T46 l0_1 x85_4).f0.f5), .int .i64 ((rd_T46 l0_1 x85_4).f0.f6), .int .i64 ((rd_T46 l0_1 x85_4).f0.f7), .int .i64 ((rd_T46 l0_1 x85_4).f0.f8), .int .i64 ((rd_T46 l0_1 x85_4).f1), .int .i64 ((rd_T46 l0_1 x85_4).f2)] 46 (0, 0)) (by (with_reducible repeat (first | refine blk_drewN ?_ _ | refine blk_drew ?_ | refine blk_alloc ?_ _)); refine blk_put (cs := #[.int .i64 ((rd_T46 l0_1 x85_4).f0.f0), .int .i64 ((rd_T46 l0_1 x85_4).f0.f1), .int .i64 ((rd_T46 l0_1 x85_4).f0.f2), .int .i64 ((rd_T46 l0_1 x85_4).f0.f3), .int .i64 ((rd_T46 l0_1 x85_4).f0.f4), .int .i64 ((rd_T46 l0_1 x85_4).f0.f5), .int .i64 ((rd_T46 l0_1 x85_4).f0.f6), .int .i64 ((rd_T46 l0_1 x85_4).f0.f7), .int .i64 ((rd_T46 l0_1 x85_4).f0.f8), .int .i64 ((rd_T46 l0_1 x85_4).f1), .int .i64 0]) ?_ 10 _ rfl; (with_reducible repeat (first | refine blk_drewN ?_ _ | refine blk_drew ?_ | refine blk_alloc ?_ _)); refine blk_put (cs := #[.int .i64 ((rd_T46 l0_1 x85_4).f0.f0), .int .i64 ((rd_T46 l0_1 x85_4).f0.f1), .int .i64 ((rd_T46 l0_1 x85_4).f0.f2), .int .i64 ((rd_T46 l0_1 x85_4).f0.f3), .int .i64 ((rd_T46 l0_1 x85_4).f0.f4), .int .i64 ((rd_T46 l0_1 x85_4).f0.f5), .int .i64 ((rd_T46 l0_1 x85_4).f0.f6), .int .i64 ((rd_T46 l0_1 x85_4).f0.f7), .int .i64 ((rd_T46 l0_1 x85_4).f0.f8), .int .i64 0, .int .i64 0]) ?_ 9 _ rfl; (with_reducible repeat (first | refine blk_drewN ?_ _ | refine blk_drew ?_ | refine blk_alloc ?_ _)); refine blk_put (cs := #[.int .i64 ((rd_T46 l0_1 x85_4).f0.f0), .int .i64 ((rd_T46 l0_1 x85_4).f0.f1), .int .i64 ((rd_T46 l0_1 x85_4).f0.f2), .int .i64 ((rd_T46 l0_1 x85_4).f0.f3), .int .i64 ((rd_T46 l0_1 x85_4).f0.f4), .int .i64 ((rd_T46 l0_1 x85_4).f0.f5), .int .i64 ((rd_T46 l0_1 x85_4).f0.f6), .int .i64 ((rd_T46 l0_1 x85_4).f0.f7), .int .i64 0, .int .i64 0, .int .i64 0]) ?_ 8 _ rfl; (with_reducible repeat (first | refine blk_drewN ?_ _ | refine blk_drew ?_ | refine blk_alloc ?_ _)); refine blk_put (cs := #[.int .i64 ((rd_T46 l0_1 x85_4).f0.f0), .int .i64 ((rd_T46 l0_1 x85_4).f0.f1), .int .i64 ((rd_T46 l0_1 x85_4).f0.f2), .int .i64 ((rd_T46 l0_1 x85_4).f0.f3), .int .i64 ((rd_T46 l0_1 x85_4).f0.f4), .int .i64 ((rd_T46 l0_1 x85_4).f0.f5), .int .i64 ((rd_T46 l0_1 x85_4).f0.f6), .int .i64 0, .int .i64 0, .int .i64 0, .int .i64 0]) ?_ 7 _ rfl; (with_reducible repeat (first | refine blk_drewN ?_ _ | refine blk_drew ?_ | refine blk_alloc ?_ _)); refine blk_put (cs := #[.int .i64 ((rd_T46 l0_1 x85_4).f0.f0), .int .i64 ((rd_T46 l0_1 x85_4).f0.f1), .int .i64 ((rd_T46 l0_1 x85_4).f0.f2), .int .i64 ((rd_T46 l0_1 x85_4).f0.f3), .int .i64 ((rd_T46 l0_1 x85_4).f0.f4), .int .i64 ((rd_T46 l0_1 x85_4).f0.f5), .int .i64 0, .int .i64 0, .int .i64 0, .int .i64 0, .int .i64 0]) ?_ 6 _ rfl; (with_reducible repeat (first | refine blk_drewN ?_ _ | refine blk_drew ?_ | refine blk_alloc ?_ _)); refine blk_put (cs := #[.int .i64 ((rd_T46 l0_1 x85_4).f0.f0), .int .i64 ((rd_T46 l0_1 x85_4).f0.f1), .int .i64 ((rd_T46 l0_1 x85_4).f0.f2), .int .i64 ((rd_T46 l0_1 x85_4).f0.f3), .int .i64 ((rd_T46 l0_1 x85_4).f0.f4), .int .i64 0, .int .i64 0, .int .i64 0, .int .i64 0, .int .i64 0, .int .i64 0]) ?_ 5 _ rfl; (with_reducible repeat (first | refine blk_drewN ?_ _ | refine blk_drew ?_ | refine blk_alloc ?_ _)); refine blk_put (cs := #[.int .i64 ((rd_T46 l0_1 x85_4).f0.f0), .int .i64 ((rd_T46 l0_1 x85_4).f0.f1), .int .i64 ((rd_T46 l0_1 x85_4).f0.f2), .int .i64 ((rd_T46 l0_1 x85_4).f0.f3), .int .i64 0, .int .i64 0, .int .i64 0, .int .i64 0, .int .i64 0, .int .i64 0, .int .i64 0]) ?_ 4 _ rfl; (with_reducible repeat (first | refine blk_drewN ?_ _ | refine blk_drew ?_ | refine blk_alloc ?_ _)); refine blk_put (cs := #[.int .i64 ((rd_T46 l0_1 x85_4).f0.f0), .int .i64 ((rd_T46 l0_1 x85_4).f0.f1), .int .i64 ((rd_T46 l0_1 x85_4).f0.f2), .int .i64 0, .int .i64 0, .int .i64 0, .int .i64 0, .int .i64 0, .int .i64 0, .int .i64 0, .int .i64 0]) ?_ 3 _ rfl; (with_reducible repeat (first | refine blk_drewN ?_ _ | refine blk_drew ?_ | refine blk_alloc ?_ _)); refine blk_put (cs := #[.int .i64 ((rd_T46 l0_1 x85_4).f0.f0), .int .i64 ((rd_T46 l0_1 x85_4).f0.f1), .int .i64 0, .int .i64 0, .int .i64 0, .int .i64 0, .int .i64 0, .int .i64 0, .int .i64 0, .int .i64 0, .int .i64 0]) ?_ 2 _ rfl; (with_reducible repeat (first | refine blk_drewN ?_ _ | refine blk_drew ?_ | refine blk_alloc ?_ _)); refine blk_put (cs := #[.int .i64 ((rd_T46 l0_1 x85_4).f0.f0), .int .i64 0, .int .i64 0, .int .i64 0, .int .i64 0, .int .i64 0, .int .i64 0, .int .i64 0, .int .i64 0, .int .i64 0, .int .i64 0]) ?_ 1 _ rfl; (with_reducible repeat (first | refine blk_drewN ?_ _ | refine blk_drew ?_ | refine blk_alloc ?_ _)); refine blk_put (cs := #[.int .i64 0, .int .i64 0, .int .i64 0, .int .i64 0, .int .i64 0, .int .i64 0, .int .i64 0, .int .i64 0, .int .i64 0, .int .i64 0, .int .i64 0]) ?_ 0 _ rfl; (with_reducible repeat (first | refine blk_drewN ?_ _ | refine blk_drew ?_ | refine blk_alloc ?_ _)); exact BK122.out) hg (Kd.R_ne HO_8.out BK122.out (by decide))); have n6_ := am (hb); have n7_ := am (ho); clear HO_4; clear HO_118001; clear BK101; clear BK102; clear BK117; clear BK122; clear HB; clear HO_8; have HO_4 := n0_; have HO_118001 := n1_; have BK101 := n2_; have BK102 := n3_; have BK117 := n4_; have BK122 := n5_; have HB := n6_; have HO125 := n7_; clear n0_ n1_ n2_ n3_ n4_ n5_ n6_ n7_; clear ho hb hg hat; obtain ⟨Ao103, co103, eo103⟩ := Kd.R_slice HO_4.out; subst eo103; have p126 : 0 ≤ ((ji67) : Int) := of_decide_eq_true (by first | with_reducible assumption | assumption); have q126 : (ji67) < (x4_2.length : Int) := of_decide_eq_true (by first | with_reducible assumption | assumption); obtain ⟨ad126, e126, hx126_0⟩ := Kd.at_bool (Kd.R_reads' HO_4.out).2.2 (ji67) p126 q126; (try rw [← Nbq70.out] at hx126_0); cases e126; replace p126 := eq_true p126; replace q126 := eq_true q126))
                      go_roundg k4
                      case measure => have := HK1.out; have := HK2.out; have := HK3.out; have := HK4.out; omega
                      case rel => exact ⟨(y123), (wrap64 (x85_4 + 1)), (x118001_4), (.slice Ao101 x118001_4.length co101), (by first | rfl | (simp; done) | (simp [*]; done)), H', ⟨by have := HK1.out; have := HK2.out; have := HK3.out; have := HK4.out; omega⟩, ⟨by (with_reducible repeat (first | apply Kd.R_alloc | apply Kd.R_drewN | apply Kd.R_drew)); exact HO_4.out⟩, ⟨by (with_reducible repeat (first | apply Kd.R_alloc | apply Kd.R_drewN | apply Kd.R_drew)); exact HO125.out⟩, ⟨by (with_reducible repeat (first | apply Kd.R_alloc | apply Kd.R_drewN | apply Kd.R_drew)); exact Kd.R_mono HO_118001.out (fun _ hk => trivial)⟩, ⟨bA BK101.out⟩, ⟨bA BK102.out⟩, ⟨bA BK117.out⟩, ⟨bB HB.out⟩⟩
                    ·rw [if_neg c69] at H
                     exact absurd H (by simp)
                   ·rw [if_neg c68] at H
                    exact absurd H (by simp)
                  ·rw [if_neg c66] at H
                   exact absurd H (by simp)
                 ·rw [if_neg c65] at H
                  exact absurd H (by simp)
                ·rw [if_neg c64] at H
                 exact absurd H (by simp)
               ·rw [if_neg c63] at H
                have c63b0 : decide (x85_4 < (l0_1.length : Int)) = false := decide_eq_false c63
                clear c63
                have H' := am H
                clear H; have hnb104 := NB101_102.out; have hnc104 := NB102_101.out; have hnb105 := NB101_117.out; have hnc105 := NB117_101.out
                have hcz106_0 : wr.cell? ⟨gb101, 0, none⟩ = some (.int .i64 a0_0) := (blk_cell BK101.out 0).trans rfl
                have hcz106_1 : wr.cell? ⟨gb101, 1, none⟩ = some (.slice A0_1 l0_1.length c0_1) := (blk_cell BK101.out 1).trans rfl
                have hcz106_2 : wr.cell? ⟨gb101, 2, none⟩ = some (.slice A0_2 l0_2.length c0_2) := (blk_cell BK101.out 2).trans rfl
                have hfz106_0 := blk_frozen BK101.out 0; have hfz106_1 := blk_frozen BK101.out 1; have hfz106_2 := blk_frozen BK101.out 2
                go_wp2
                go_loopg [126] k4 (fun kq v126 w' => ∃ (x126_5 : Int) (x118002_5 : List Int) (u118002 : Value), v126 = .int .i64 x126_5 ∧ Aside0 (spec_TrimCircuit.l4 kq x8_4 l0_2 (l0_2.length : Int) x126_5 a0_0 x118001_4 x118002_5 = some (r1, r2, r3)) ∧ Aside0 (kq ≤ k4) ∧ Aside0 (Kd.R (Kd.int .i64) 3 w' w.heap.size (fun k_ => some k_ ≠ (u118002 : Value).ownBlock) u8 x8_4) ∧ Aside0 (Kd.R k46 46 w' w.heap.size (fun _ => True) u118001 x118001_4) ∧ Aside0 (Kd.R (Kd.int .i64) 3 w' w.heap.size (fun k_ => some k_ ≠ (u8 : Value).ownBlock) u118002 x118002_5) ∧ Aside0 (w'.heap[gb101]? = some (.cells #[.int .i64 a0_0, (.slice A0_1 l0_1.length c0_1), (.slice A0_2 l0_2.length c0_2)] 35 (0, 0))) ∧ Aside0 (w'.heap[gb102]? = some (.cells #[.int .i64 0, (.slice none 0 0), (.slice none 0 0)] 35 (0, 0))) ∧ Aside0 (w'.heap[gb117]? = some (.cells #[.int .i64 a0_0, u118001, u118002] 35 (0, 0))) ∧ Aside0 (Below w.heap.size w w'))
                case atStart => exact ⟨(0), (([] : List Int)), (.slice none 0 0), (by first | rfl | (simp; done) | (simp [*]; done)), H', ⟨Nat.le_refl _⟩, ⟨by (with_reducible repeat (first | apply Kd.R_alloc | apply Kd.R_drewN | apply Kd.R_drew)); exact Kd.R_mono HO_8.out (fun _ hk => (by simp [Value.ownBlock]))⟩, ⟨by (with_reducible repeat (first | apply Kd.R_alloc | apply Kd.R_drewN | apply Kd.R_drew)); exact HO_118001.out⟩, ⟨by first | exact Kd.R_nil _ _ _ _ _ | exact Kd.N_nil _ _ _ _ _ | exact Kd.V_nil _ _ _ _ _ | exact Kd.Q_nil _ _ _ _ _ | exact Kd.S_nil _ _ _ _ _⟩, ⟨bA BK101.out⟩, ⟨bA BK102.out⟩, ⟨bA BK117.out⟩, ⟨bB HB.out⟩⟩
                case round =>
                 clear H'
                 try clear c1
                 try clear p1
                 try clear q1
                 try clear hx1
                 try clear c2
                 try clear p2
                 try clear q2
                 try clear hx2
                 try clear hf2
                 try clear c3
                 try clear p3
                 try clear q3
                 try clear hx3
                 try clear hf3
                 try clear c4
                 try clear c5
                 try clear c5b0
                 try clear c5b1
                 try clear c6
                 try clear c6b0
                 try clear c6b1
                 try clear p6
                 try clear c7
                 try clear q7
                 try clear c8
                 try clear c9
                 try clear c10
                 try clear p10
                 try clear q10
                 try clear hx10
                 try clear p11
                 try clear q11
                 try clear hx11
                 try clear p12
                 try clear q12
                 try clear hx12
                 try clear c16
                 try clear c16b0
                 try clear c17
                 try clear c17b0
                 try clear c18
                 try clear c18b0
                 try clear c19
                 try clear c19b0
                 try clear c20
                 try clear c20b0
                 try clear p21
                 try clear q21
                 try clear hx21
                 try clear hf21
                 try clear c24
                 try clear c26
                 try clear c26b0
                 try clear c28
                 try clear c28b0
                 try clear c29
                 try clear c29b0
                 try clear q30
                 try clear c31
                 try clear c32
                 try clear c32b0
                 try clear c33
                 try clear c33b0
                 try clear c34
                 try clear c34b0
                 try clear c35
                 try clear c35b0
                 try clear p36
                 try clear q36
                 try clear hx36
                 try clear hf36
                 try clear c37
                 try clear c37b0
                 try clear c38
                 try clear c38b0
                 try clear p39
                 try clear q39
                 try clear hx39
                 try clear hf39
                 try clear c41
                 try clear c51
                 try clear c54
                 try clear c55
                 try clear c57
                 try clear c57b0
                 try clear c58
                 try clear c60
                 try clear c61
                 try clear c63
                 try clear c63b0
                 try clear c64
                 try clear c64b0
                 try clear p64
                 try clear c65
                 try clear c65b0
                 try clear c66
                 try clear c68
                 try clear c68b0
                 try clear c69
                 try clear c69b0
                 try clear q70
                 try clear c71
                 try clear c72
                 try clear c72b0
                 try clear c73
                 try clear c73b0
                 try clear c74
                 try clear c74b0
                 try clear c75
                 try clear c75b0
                 try clear c76
                 try clear c78
                 try clear c79
                 try clear c80
                 try clear c82
                 try clear c83
                 try clear c94
                 try clear c95
                 try clear c96
                 try clear c98
                 try clear c99
                 try clear c104
                 try clear c105
                 try clear hcz100_0
                 try clear hcz100_1
                 try clear hcz100_2
                 try clear hcz106_0
                 try clear hcz106_1
                 try clear hcz106_2
                 try clear hcz10_0
                 try clear hcz10_1
                 try clear hcz10_2
                 try clear hcz12_0
                 try clear hcz12_1
                 try clear hcz12_2
                 try clear hcz15_0
                 try clear hcz15_1
                 try clear hcz15_2
                 try clear hcz25_0
                 try clear hcz25_1
                 try clear hcz25_2
                 try clear hcz42_0
                 try clear hcz42_1
                 try clear hcz42_2
                 try clear hcz45_0
                 try clear hcz45_1
                 try clear hcz45_2
                 try clear hcz52_0
                 try clear hcz52_1
                 try clear hcz52_2
                 try clear hcz56_0
                 try clear hcz56_1
                 try clear hcz56_2
                 try clear hcz62_0
                 try clear hcz62_1
                 try clear hcz62_2
                 try clear hcz81_0
                 try clear hcz81_1
                 try clear hcz81_10
                 try clear hcz81_2
                 try clear hcz81_3
                 try clear hcz81_4
                 try clear hcz81_5
                 try clear hcz81_6
                 try clear hcz81_7
                 try clear hcz81_8
                 try clear hcz81_9
                 try clear hcz84_0
                 try clear hcz84_1
                 try clear hcz84_2
                 try clear hcz97_0
                 try clear hcz97_1
                 try clear hcz97_10
                 try clear hcz97_2
                 try clear hcz97_3
                 try clear hcz97_4
                 try clear hcz97_5
                 try clear hcz97_6
                 try clear hcz97_7
                 try clear hcz97_8
                 try clear hcz97_9
                 try clear hfz100_0
                 try clear hfz100_1
                 try clear hfz100_2
                 try clear hfz106_0
                 try clear hfz106_1
                 try clear hfz106_2
                 try clear hfz10_0
                 try clear hfz10_1
                 try clear hfz10_2
                 try clear hfz12_0
                 try clear hfz12_1
                 try clear hfz12_2
                 try clear hfz15_0
                 try clear hfz15_1
                 try clear hfz15_2
                 try clear hfz25_0
                 try clear hfz25_1
                 try clear hfz25_2
                 try clear hfz42_0
                 try clear hfz42_1
                 try clear hfz42_2
                 try clear hfz45_0
                 try clear hfz45_1
                 try clear hfz45_2
                 try clear hfz52_0
                 try clear hfz52_1
                 try clear hfz52_2
                 try clear hfz56_0
                 try clear hfz56_1
                 try clear hfz56_2
                 try clear hfz62_0
                 try clear hfz62_1
                 try clear hfz62_2
                 try clear hfz81_0
                 try clear hfz81_1
                 try clear hfz81_10
                 try clear hfz81_2
                 try clear hfz81_3
                 try clear hfz81_4
                 try clear hfz81_5
                 try clear hfz81_6
                 try clear hfz81_7
                 try clear hfz81_8
                 try clear hfz81_9
                 try clear hfz84_0
                 try clear hfz84_1
                 try clear hfz84_2
                 try clear hfz97_0
                 try clear hfz97_1
                 try clear hfz97_10
                 try clear hfz97_2
                 try clear hfz97_3
                 try clear hfz97_4
                 try clear hfz97_5
                 try clear hfz97_6
                 try clear hfz97_7
                 try clear hfz97_8
                 try clear hfz97_9
                 try clear hx107_0
                 try clear hx109_0
                 try clear hx110_0
                 try clear hx110_1
                 try clear hx110_10
                 try clear hx110_2
                 try clear hx110_3
                 try clear hx110_4
                 try clear hx110_5
                 try clear hx110_6
                 try clear hx110_7
                 try clear hx110_8
                 try clear hx110_9
                 try clear hx112_0
                 try clear hx112_1
                 try clear hx112_10
                 try clear hx112_2
                 try clear hx112_3
                 try clear hx112_4
                 try clear hx112_5
                 try clear hx112_6
                 try clear hx112_7
                 try clear hx112_8
                 try clear hx112_9
                 try clear hx121_0
                 try clear hx121_1
                 try clear hx121_10
                 try clear hx121_2
                 try clear hx121_3
                 try clear hx121_4
                 try clear hx121_5
                 try clear hx121_6
                 try clear hx121_7
                 try clear hx121_8
                 try clear hx121_9
                 try clear hx126_0
                 try clear hx127_0
                 try clear hx128_0
                 try clear hx21_0
                 try clear hx36_0
                 try clear hx39_0
                 try clear p1
                 try clear p10
                 try clear p107
                 try clear p109
                 try clear p11
                 try clear p110
                 try clear p112
                 try clear p121
                 try clear p126
                 try clear p127
                 try clear p128
                 try clear p2
                 try clear p21
                 try clear p3
                 try clear p36
                 try clear p39
                 try clear p6
                 try clear q1
                 try clear q10
                 try clear q107
                 try clear q109
                 try clear q11
                 try clear q110
                 try clear q112
                 try clear q121
                 try clear q126
                 try clear q127
                 try clear q128
                 try clear q2
                 try clear q21
                 try clear q3
                 try clear q30
                 try clear q36
                 try clear q39
                 obtain ⟨x126_5, x118002_5, u118002, rfl, HA, HK5, HO_8, HO_118001, HO_118002, BK101, BK102, BK117, HB⟩ := hrel
                 cases gk with
                 | zero => exact absurd HA.out (by simp [spec_TrimCircuit.l4])
                 | succ k5 =>
                  have H := HA.out; clear HA
                  simp only [spec_TrimCircuit.l4] at H
                  by_cases c107 : x126_5 < (l0_2.length : Int)
                  ·rw [if_pos c107] at H
                   have c107b0 : decide (x126_5 < (l0_2.length : Int)) = true := decide_eq_true c107
                   clear c107
                   by_cases c108 : 0 ≤ x126_5
                   ·rw [if_pos c108] at H
                    have c108b0 : decide (0 ≤ x126_5) = true := decide_eq_true c108
                    clear c108
                    by_cases c109 : x126_5 < (l0_2.length : Int)
                    ·rw [if_pos c109] at H
                     have c109b0 : decide (x126_5 < (l0_2.length : Int)) = true := decide_eq_true c109
                     clear c109
                     by_cases c110 : 0 ≤ (rd l0_2 x126_5)
                     ·rw [if_pos c110] at H
                      have c110b0 : decide (0 ≤ (rd l0_2 x126_5)) = true := decide_eq_true c110
                      clear c110
                      by_cases c111 : (rd l0_2 x126_5) < (x8_4.length : Int)
                      ·rw [if_pos c111] at H
                       have c111b0 : decide ((rd l0_2 x126_5) < (x8_4.length : Int)) = true := decide_eq_true c111
                       clear c111
                       by_cases c112 : x118002_5.length < 17592186044416
                       ·rw [if_pos c112] at H
                        have LMc112 := am c112; clear c112
                        obtain ⟨y134, hy134⟩ : ∃ y_ : List Int, y_ = (x118002_5 ++ [rd x8_4 (rd l0_2 x126_5)]) := ⟨_, rfl⟩
                        replace H : (spec_TrimCircuit.l4 k5 x8_4 l0_2 (l0_2.length : Int) (wrap64 (x126_5 + 1)) a0_0 x118001_4 y134) = some (r1, r2, r3) := by first | (rw [hy134]; with_reducible exact H) | (have H2_ := (Option.bind_some _ _).symm.trans H; rw [hy134]; with_reducible exact H2_) | (have H2_ := (Option.bind_some _ _).symm.trans H; with_reducible exact H2_) | with_reducible exact H | (rw [hy134]; exact H) | exact H
                        have Ny134 := am hy134; clear hy134
                        have H' := am H
                        clear H
                        have p132 : 0 ≤ (x126_5 : Int) := of_decide_eq_true (by first | with_reducible assumption | assumption)
                        have q132 : x126_5 < (l0_2.length : Int) := of_decide_eq_true (by first | with_reducible assumption | assumption)
                        obtain ⟨ad132, e132, hx132_0⟩ := Kd.at_int HR0_2.out x126_5 p132 q132
                        cases e132
                        replace hx132_0 := (HB.out.cell (World.block_lt_of_cell? w _ hx132_0)).trans hx132_0
                        replace p132 := eq_true p132
                        replace q132 := eq_true q132
                        try go_wp2
                        have n0_ := am (Kd.R_drew HO_8.out); have n1_ := am (Kd.R_drew HO_118001.out); have n2_ := am (Kd.R_drew HO_118002.out); have n3_ := am (blk_drew BK101.out); have n4_ := am (blk_drew BK102.out); have n5_ := am (blk_drew BK117.out); have n6_ := am (below_drew1 HB.out); clear HO_8; clear HO_118001; clear HO_118002; clear BK101; clear BK102; clear BK117; clear HB; have HO_8 := n0_; have HO_118001 := n1_; have HO_118002 := n2_; have BK101 := n3_; have BK102 := n4_; have BK117 := n5_; have HB := n6_; clear n0_ n1_ n2_ n3_ n4_ n5_ n6_
                        obtain ⟨Ao114, co114, eo114⟩ := Kd.R_slice HO_8.out
                        (first | subst eo114 | (injection eo114 with f1_ f2_ f3_; have f4_ := f1_.symm; have f5_ := f3_.symm; clear f1_ f2_ f3_; subst f4_; subst f5_))
                        have p133 : 0 ≤ ((rd l0_2 x126_5) : Int) := of_decide_eq_true (by first | with_reducible assumption | assumption)
                        have q133 : (rd l0_2 x126_5) < (x8_4.length : Int) := of_decide_eq_true (by first | with_reducible assumption | assumption)
                        obtain ⟨ad133, e133, hx133_0⟩ := Kd.at_int (Kd.R_reads' HO_8.out).2.2 (rd l0_2 x126_5) p133 q133
                        cases e133
                        replace p133 := eq_true p133
                        replace q133 := eq_true q133
                        refine start_ (n := 10) (S := fun w' => w'.cell? ⟨gb117, 0, none⟩ = some (.int .i64 a0_0) ∧ w'.cell? ⟨gb117, 1, none⟩ = some (u118001) ∧ w'.cell? ⟨gb117, 2, none⟩ = some (u118002) ∧ w'.cell? (ad133.add ((rd l0_2 x126_5)).toNat) = some (.int .i64 (rd x8_4 (rd l0_2 x126_5)))) (ds := [7, 9]) q37_20 (by kernel_rfl) rfl rfl ⟨(blk_cell BK117.out 0).trans rfl, (blk_cell BK117.out 1).trans rfl, (blk_cell BK117.out 2).trans rfl, hx133_0⟩ (fun hHeld => ?_); refine with_tabW spec_TrimCircuit.tab32 spec_TrimCircuit.bits32 (fun HT_ HW_ => ?_)
                        generalize wr.drew = w113 at HO_8 HO_118001 HO_118002 BK101 BK102 BK117 HB hx133_0 hHeld ⊢
                        refine pure_ (i := 0) (N := some 130) (v := ?_) (a' := ?_) q37_21 rfl rfl (any_of HT_.out (by kernel_rfl)) (fun _ _ _ h => h) (Or.inl ⟨by rfl, ?_⟩) ?_ ?_; rotate_left
                        ·intro w'
                         go_simp; with_reducible rfl
                        rotate_left
                        ·simp only [Act.put, qa37, qb37, qc37, i64_w, i32_w]
                         rfl
                        refine pure_ (i := 2) (N := some 132) (v := ?_) (a' := ?_) q37_22 rfl rfl (any_of HT_.out (by kernel_rfl)) (fun _ _ _ h => h) (Or.inl ⟨by rfl, ?_⟩) ?_ ?_; rotate_left
                        ·intro w'
                         go_simp; with_reducible rfl
                        rotate_left
                        ·simp only [Act.put, qa37, qb37, qc37, i64_w, i32_w]
                         rfl
                        refine pure_ (i := 3) (N := some 133) (v := ?_) (a' := ?_) q37_23 rfl rfl (any_of HT_.out (by kernel_rfl)) (fun _ _ _ h => h) (Or.inl ⟨by rfl, ?_⟩) ?_ ?_; rotate_left
                        ·intro w'
                         go_simp; with_reducible rfl
                        rotate_left
                        ·simp only [Act.put, qa37, qb37, qc37, i64_w, i32_w]
                         rfl
                        refine pure_ (i := 4) (N := some 134) (v := ?_) (a' := ?_) q37_24 rfl rfl (any_of HT_.out (by kernel_rfl)) (fun _ _ _ h => h) (Or.inl ⟨by rfl, ?_⟩) ?_ ?_; rotate_left
                        ·intro w'
                         go_simp; with_reducible rfl
                        rotate_left
                        ·simp only [Act.put, qa37, qb37, qc37, i64_w, i32_w]
                         rfl
                        refine take_ (i := 1) (N := some 131) (v := ?_) (a' := ?_) q37_25 rfl rfl (take_ofW HT_.out HW_.out (by kernel_rfl)) (fun _ _ _ h => h) (Or.inl ⟨by rfl, ?_⟩) hHeld ?_ ?_; rotate_left
                        ·rintro w' ⟨s0, s1, s2, s3⟩
                         go_simp; with_reducible rfl
                        rotate_left
                        ·simp only [Act.put, qa37, qb37, qc37, i64_w, i32_w]
                         rfl
                        refine take_ (i := 5) (N := some 135) (v := ?_) (a' := ?_) q37_26 rfl rfl (take_ofW HT_.out HW_.out (by kernel_rfl)) (fun _ _ _ h => h) (Or.inl ⟨by rfl, ?_⟩) hHeld ?_ ?_; rotate_left
                        ·rintro w' ⟨s0, s1, s2, s3⟩
                         go_simp; with_reducible rfl
                        rotate_left
                        ·simp only [Act.put, qa37, qb37, qc37, i64_w, i32_w]
                         rfl
                        refine one_ (i := 6) (N := some 136) q37_27 rfl rfl (one_of HT_.out (by kernel_rfl)) (by decide) (fun K hK => ?_)
                        refine value_ (w1 := ?_) (v := ?_) (by rfl) rfl ?_ ?_
                        rotate_left 2
                        ·go_simp
                         constructor
                         ·rfl
                         ·rfl
                        refine hK.out _ _ ⟨(blk_cell (blk_alloc BK117.out _) 0).trans rfl, (blk_cell (blk_alloc BK117.out _) 1).trans rfl, (blk_cell (blk_alloc BK117.out _) 2).trans rfl, (World.cell?_alloc_lt _ _ _ (World.block_lt_of_cell? _ _ (hHeld.2.2.2))).trans (hHeld.2.2.2)⟩ (fun hHeld => ?_)
                        clear hK K
                        refine norm_ (a' := ?_) ?_ ?_; rotate_left
                        ·show Act.put _ (some 136) _ = _
                         simp only [Act.put, qa37, qb37, qc37, i64_w, i32_w]
                         rfl
                        refine last_ (i := 7) (N := some 137) q37_28 rfl rfl (one_of HT_.out (by kernel_rfl)) (by decide) (fun K hK => ?_)
                        refine Kd.R_append_step (Kd.int .i64) (w0 := w) w.heap.size (by rfl) (.tmp 131) (.tmp 136) 28 3 (.int .i64 0) 8 rfl Try.underlying28 info3 rfl (by decide) (by omega) u118002 x118002_5 (rd x8_4 (rd l0_2 x126_5)) [.int .i64 (rd x8_4 (rd l0_2 x126_5))] (fun k_ => some k_ ≠ (.slice (some ad133) x8_4.length co114 : Value).ownBlock) (fun _ => False) rfl rfl ?aP (fun _ hk => hk.elim) ?aF ?aO ?aB ?aS ?aL ?_
                        (case aP => exact rfl)
                        (case aB => exact (bB HB.out))
                        (case aF => exact (fun k_ hk => Kd.fresh' (Kd.R_lt (bC HO_8.out)) k_ hk))
                        (case aO => exact (bC HO_118002.out))
                        (case aS => exact (below_size (bB HB.out)))
                        (case aL => have := LMc112.out; omega)
                        intro v135 w115 ho hb hg hat
                        rw [← Ny134.out] at ho
                        have n0_ := am (Kd.R_after (ok := (fun _ => True)) (bC (Kd.R_mono HO_8.out (fun _ hk => ⟨trivial, hk⟩))) hg hat); have n1_ := am (Kd.R_over' (bC HO_118001.out) (Kd.R_typed (bC HO_118002.out)) (by decide) hg); have n2_ := am (blk_grown (g := gb101) (o := .cells #[.int .i64 a0_0, .slice A0_1 l0_1.length c0_1, .slice (some ad132) l0_2.length c0_2] 35 (0, 0)) (bA BK101.out) hg (Kd.R_ne HO_118002.out BK101.out (by decide))); have n3_ := am (blk_grown (g := gb102) (o := .cells #[.int .i64 0, .slice none 0 0, .slice none 0 0] 35 (0, 0)) (bA BK102.out) hg (Kd.R_ne HO_118002.out BK102.out (by decide))); have n4_ := am (blk_grown (g := gb117) (o := .cells #[.int .i64 a0_0, u118001, u118002] 35 (0, 0)) (bA BK117.out) hg (Kd.R_ne HO_118002.out BK117.out (by decide))); have n5_ := am (hb); have n6_ := am (ho); clear HO_8; clear HO_118001; clear BK101; clear BK102; clear BK117; clear HB; clear HO_118002; have HO_8 := n0_; have HO_118001 := n1_; have BK101 := n2_; have BK102 := n3_; have BK117 := n4_; have HB := n5_; have HO136 := n6_; clear n0_ n1_ n2_ n3_ n4_ n5_ n6_; clear ho hb hg hat
                        obtain ⟨Ao116, co116, eo116⟩ := Kd.R_slice HO136.out
                        (first | subst eo116 | (injection eo116 with f1_ f2_ f3_; have f4_ := f1_.symm; have f5_ := f3_.symm; clear f1_ f2_ f3_; subst f4_; subst f5_))
                        refine hK.out _ _ ?_
                        clear hK K
                        refine norm_ (a' := ?_) ?_ ?_; rotate_left
                        ·show Act.put _ (some 137) _ = _
                         simp only [Act.put, qa37, qb37, qc37, i64_w, i32_w]
                         rfl
                        refine pure_ (i := 8) (N := some 138) (v := ?_) (a' := ?_) q37_29 rfl rfl (any_of HT_.out (by kernel_rfl)) (fun _ _ _ h => h) (Or.inl ⟨by rfl, ?_⟩) ?_ ?_; rotate_left
                        ·intro w'
                         go_simp; with_reducible rfl
                        rotate_left
                        ·simp only [Act.put, qa37, qb37, qc37, i64_w, i32_w]
                         rfl
                        refine last_ (i := 9) (N := none) q37_30 rfl rfl (one_of HT_.out (by kernel_rfl)) (by decide) (fun K hK => ?_)
                        have hs117 : w115.cell? ⟨gb117, 2, none⟩ = some (u118002) := (blk_cell BK117.out 2).trans rfl
                        have hfs117 := blk_frozen BK117.out 2; have hns117_0 := NB101_117.out; have hns117_1 := NB102_117.out; have hms117_0 := NB117_101.out; have hms117_1 := NB117_102.out
                        refine skip_ (w1 := ?_) (by rfl) rfl ?_ ?_; rotate_left
                        ·go_simp
                         rfl
                        refine hK.out _ _ ?_
                        clear hK K
                        refine done_ (done_of HT_.out (by kernel_rfl)) ?_
                        try go_wp2
                        go_roundg k5
                        case measure => have := HK1.out; have := HK2.out; have := HK3.out; have := HK4.out; have := HK5.out; omega
                        case rel => exact ⟨(wrap64 (x126_5 + 1)), (y134), (.slice Ao116 y134.length co116), (by first | rfl | (simp; done) | (simp [*]; done)), H', ⟨by have := HK1.out; have := HK2.out; have := HK3.out; have := HK4.out; have := HK5.out; omega⟩, ⟨by (with_reducible repeat (first | apply Kd.R_alloc | apply Kd.R_drewN | apply Kd.R_drew)); exact Kd.R_mono (Kd.R_far (p := ⟨gb117, 2, none⟩) (Kd.R_types HO_8.out BK117.out (by decide)) (fun _ hk => hk.2) (.slice Ao116 y134.length co116)) (fun _ hk => hk.1.2)⟩, ⟨by (with_reducible repeat (first | apply Kd.R_alloc | apply Kd.R_drewN | apply Kd.R_drew)); exact Kd.R_mono (Kd.R_far (p := ⟨gb117, 2, none⟩) (Kd.R_types HO_118001.out BK117.out (by decide)) (fun _ hk => hk.2) (.slice Ao116 y134.length co116)) (fun _ hk => trivial)⟩, ⟨by (with_reducible repeat (first | apply Kd.R_alloc | apply Kd.R_drewN | apply Kd.R_drew)); exact Kd.R_mono (Kd.R_far (p := ⟨gb117, 2, none⟩) (Kd.R_types HO136.out BK117.out (by decide)) (fun _ hk => hk.2) (.slice Ao116 y134.length co116)) (fun _ hk => hk.1)⟩, ⟨by (with_reducible repeat (first | refine blk_drewN ?_ _ | refine blk_drew ?_ | refine blk_alloc ?_ _)); refine blk_far ?_ NB101_117.out _; (with_reducible repeat (first | refine blk_drewN ?_ _ | refine blk_drew ?_ | refine blk_alloc ?_ _)); exact BK101.out⟩, ⟨by (with_reducible repeat (first | refine blk_drewN ?_ _ | refine blk_drew ?_ | refine blk_alloc ?_ _)); refine blk_far ?_ NB102_117.out _; (with_reducible repeat (first | refine blk_drewN ?_ _ | refine blk_drew ?_ | refine blk_alloc ?_ _)); exact BK102.out⟩, ⟨by (with_reducible repeat (first | refine blk_drewN ?_ _ | refine blk_drew ?_ | refine blk_alloc ?_ _)); refine blk_put (cs := #[.int .i64 a0_0, u118001, u118002]) ?_ 2 _ rfl; (with_reducible repeat (first | refine blk_drewN ?_ _ | refine blk_drew ?_ | refine blk_alloc ?_ _)); exact BK117.out⟩, ⟨bB HB.out⟩⟩
                       ·rw [if_neg c112] at H
                        exact absurd H (by simp)
                      ·rw [if_neg c111] at H
                       exact absurd H (by simp)
                     ·rw [if_neg c110] at H
                      exact absurd H (by simp)
                    ·rw [if_neg c109] at H
                     exact absurd H (by simp)
                   ·rw [if_neg c108] at H
                    exact absurd H (by simp)
                  ·rw [if_neg c107] at H
                   have c107b0 : decide (x126_5 < (l0_2.length : Int)) = false := decide_eq_false c107
                   clear c107
                   simp only [Option.some.injEq, Prod.mk.injEq] at H
                   obtain ⟨rfl, rfl, rfl⟩ := H
                   have hnb118 := NB117_101.out; have hnc118 := NB101_117.out; have hnb119 := NB117_102.out; have hnc119 := NB102_117.out
                   have hcz120_0 : wr.cell? ⟨gb117, 0, none⟩ = some (.int .i64 a0_0) := (blk_cell BK117.out 0).trans rfl
                   have hcz120_1 : wr.cell? ⟨gb117, 1, none⟩ = some (u118001) := (blk_cell BK117.out 1).trans rfl
                   have hcz120_2 : wr.cell? ⟨gb117, 2, none⟩ = some (u118002) := (blk_cell BK117.out 2).trans rfl
                   have hfz120_0 := blk_frozen BK117.out 0; have hfz120_1 := blk_frozen BK117.out 1; have hfz120_2 := blk_frozen BK117.out 2; have hnb121 := NB102_101.out; have hnc121 := NB101_102.out
                   have hcz122_0 : wr.cell? ⟨gb102, 0, none⟩ = some (.int .i64 0) := (blk_cell BK102.out 0).trans rfl
                   have hcz122_1 : wr.cell? ⟨gb102, 1, none⟩ = some (.slice none 0 0) := (blk_cell BK102.out 1).trans rfl
                   have hcz122_2 : wr.cell? ⟨gb102, 2, none⟩ = some (.slice none 0 0) := (blk_cell BK102.out 2).trans rfl
                   have hfz122_0 := blk_frozen BK102.out 0; have hfz122_1 := blk_frozen BK102.out 1; have hfz122_2 := blk_frozen BK102.out 2
                   obtain ⟨Ao123, co123, eo123⟩ := Kd.R_slice HO_118001.out
                   subst eo123
                   obtain ⟨Ao124, co124, eo124⟩ := Kd.R_slice HO_118002.out
                   subst eo124
                   go_wp2
                   refine bodyPost_ret (results_cell_row rfl _ _ gb102 35 #[.int .i64 a0_0, .slice Ao123 x118001_4.length co123, .slice Ao124 x118002_5.length co124] (0, 0) _ rfl (by (with_reducible repeat (first | refine blk_drewN ?_ _ | refine blk_drew ?_ | refine blk_alloc ?_ _)); refine blk_put (cs := #[.int .i64 a0_0, .slice Ao123 x118001_4.length co123, .slice none 0 0]) ?_ 2 _ rfl; (with_reducible repeat (first | refine blk_drewN ?_ _ | refine blk_drew ?_ | refine blk_alloc ?_ _)); refine blk_put (cs := #[.int .i64 a0_0, .slice none 0 0, .slice none 0 0]) ?_ 1 _ rfl; (with_reducible repeat (first | refine blk_drewN ?_ _ | refine blk_drew ?_ | refine blk_alloc ?_ _)); refine blk_put (cs := #[.int .i64 0, .slice none 0 0, .slice none 0 0]) ?_ 0 _ rfl; (with_reducible repeat (first | refine blk_drewN ?_ _ | refine blk_drew ?_ | refine blk_alloc ?_ _)); exact BK102.out) Try.underlying35 rfl (by kernel_rfl)) rfl ?_
                   exact ⟨_, _, by first | rfl | (simp [errW_none, errW_some] <;> rfl) | (simp only [← hji4]; first | rfl | (simp [errW_none, errW_some] <;> rfl)) | (simp [*, errW_none, errW_some] <;> rfl), by (with_reducible repeat (first | apply Kd.R_alloc | apply Kd.R_drewN | apply Kd.R_drew)); exact Kd.R_mono (Kd.R_far (p := ⟨gb102, 2, none⟩) (Kd.R_far (p := ⟨gb102, 1, none⟩) (Kd.R_far (p := ⟨gb102, 0, none⟩) (Kd.R_types HO_118001.out BK102.out (by decide)) (fun _ hk => hk.2) (.int .i64 a0_0)) (fun _ hk => hk.2) (.slice Ao123 x118001_4.length co123)) (fun _ hk => hk.2) (.slice Ao124 x118002_5.length co124)) (fun _ hk => trivial), by (with_reducible repeat (first | apply Kd.R_alloc | apply Kd.R_drewN | apply Kd.R_drew)); exact Kd.R_mono (Kd.R_far (p := ⟨gb102, 2, none⟩) (Kd.R_far (p := ⟨gb102, 1, none⟩) (Kd.R_far (p := ⟨gb102, 0, none⟩) (Kd.R_types HO_118002.out BK102.out (by decide)) (fun _ hk => hk.2) (.int .i64 a0_0)) (fun _ hk => hk.2) (.slice Ao123 x118001_4.length co123)) (fun _ hk => hk.2) (.slice Ao124 x118002_5.length co124)) (fun _ hk => trivial), bB HB.out⟩
   ·rw [if_neg c6] at H
    exact absurd H (by simp)
  ·rw [if_neg c5] at H
   exact absurd H (by simp)
 ·replace c3 := Bool.eq_false_iff.mpr c3
  subst c3
  have H1 : (some (0, ([] : List (S46)), ([] : List Int))) = some (r1, r2, r3) := by rw [if_neg (show ¬ (false = true) by decide)] at H; exact H
  clear H; have H := H1; clear H1
  simp only [Option.some.injEq, Prod.mk.injEq] at H
  obtain ⟨rfl, rfl, rfl⟩ := H
  go_enter Try.func37, Try.ntmps37
  go_wp2_with (first | ((with_reducible refine gate_dst (N := 1) rfl ?_); refine box_event ?hg (N := 1) ?hd (cs := #[.int .i64 a0_0, .slice A0_1 l0_1.length c0_1, .slice A0_2 l0_2.length c0_2]) (t := 35) ?hr ?_; (case hd => rfl); (case hg => rfl); (case hr => first | (go_simp; done) | (go_simp; rfl)); intro gb101 hg w125 hbox hb; have n0_ := am (below_step (bB HB.out) hb); have n1_ := am (hbox); have n2_ := am ((by rw [hg]; exact (below_size (bB HB.out)) : w.heap.size ≤ gb101)); have n3_ := am ((by rw [hg]; exact (below_size (bB HB.out)) : w.heap.size ≤ gb101)); clear HB; have HB := n0_; have BK101 := n1_; have GW101 := n2_; have GE101 := n3_; clear n0_ n1_ n2_ n3_; clear hb hbox hg) | ((with_reducible refine gate_dst (N := 2) rfl ?_); refine box_event ?hg (N := 2) ?hd (cs := #[.int .i64 0, .slice none 0 0, .slice none 0 0]) (t := 35) ?hr ?_; (case hd => rfl); (case hg => rfl); (case hr => first | (go_simp; done) | (go_simp; rfl)); intro gb102 hg w126 hbox hb; have n0_ := am (blk_below (bA BK101.out) hb); have n1_ := am (below_step (bB HB.out) hb); have n2_ := am (hbox); have n3_ := am ((by rw [hg]; exact (below_size (bB HB.out)) : w.heap.size ≤ gb102)); have n4_ := am ((by rw [hg]; exact (below_size (bB HB.out)) : w.heap.size ≤ gb102)); have n5_ := am ((by rw [hg]; exact Nat.ne_of_lt (blk_lt (g := gb101) (o := .cells #[.int .i64 a0_0, .slice A0_1 l0_1.length c0_1, .slice A0_2 l0_2.length c0_2] 35 (0, 0)) (bA BK101.out)) : gb101 ≠ gb102)); have n6_ := am ((by rw [hg]; exact Nat.ne_of_gt (blk_lt (g := gb101) (o := .cells #[.int .i64 a0_0, .slice A0_1 l0_1.length c0_1, .slice A0_2 l0_2.length c0_2] 35 (0, 0)) (bA BK101.out)) : gb102 ≠ gb101)); clear BK101; clear HB; have BK101 := n0_; have HB := n1_; have BK102 := n2_; have GW102 := n3_; have GE102 := n4_; have NB101_102 := n5_; have NB102_101 := n6_; clear n0_ n1_ n2_ n3_ n4_ n5_ n6_; clear hb hbox hg; have hnb127 := NB101_102.out; have hnc127 := NB102_101.out; have hcz128_0 : w126.cell? ⟨gb101, 0, none⟩ = some (.int .i64 a0_0) := (blk_cell BK101.out 0).trans rfl; have hcz128_1 : w126.cell? ⟨gb101, 1, none⟩ = some (.slice A0_1 l0_1.length c0_1) := (blk_cell BK101.out 1).trans rfl; have hcz128_2 : w126.cell? ⟨gb101, 2, none⟩ = some (.slice A0_2 l0_2.length c0_2) := (blk_cell BK101.out 2).trans rfl; have hfz128_0 := blk_frozen BK101.out 0; have hfz128_1 := blk_frozen BK101.out 1; have hfz128_2 := blk_frozen BK101.out 2) | ((with_reducible refine gate_callee (f := 18) rfl ?_); refine goesL_ (some 16) rfl rfl Try.func18 (by kernel_rfl) rfl #[.agg #[.int .i64 a0_0, .slice A0_1 l0_1.length c0_1, .slice A0_2 l0_2.length c0_2]] rfl bE ?_; (with_reducible refine (spec_IsCircuit.calls k a0_0 _ _ l0_1 _ _ l0_2 false _ ?side1 ?side2 ?side3 ?side4 A2.out).mono ?_); (case side1 => exact bD ((Kd.C_below HR0_1.out HB.out))); (case side2 => exact HC0_1.out); (case side3 => exact bD ((Kd.C_below HR0_2.out HB.out))); (case side4 => exact HC0_2.out); rintro e w129 ⟨rfl, hb⟩; refine ⟨_, rfl, ?_⟩; have n0_ := am (blk_below (bA BK101.out) hb); have n1_ := am (blk_below (bA BK102.out) hb); have n2_ := am (below_step (bB HB.out) hb); clear BK101; clear BK102; clear HB; have BK101 := n0_; have BK102 := n1_; have HB := n2_; clear n0_ n1_ n2_; (try clear hb); (try clear hb2); (try clear hk); (try clear hi); have hcz130_0 : w129.cell? ⟨gb102, 0, none⟩ = some (.int .i64 0) := (blk_cell BK102.out 0).trans rfl; have hcz130_1 : w129.cell? ⟨gb102, 1, none⟩ = some (.slice none 0 0) := (blk_cell BK102.out 1).trans rfl; have hcz130_2 : w129.cell? ⟨gb102, 2, none⟩ = some (.slice none 0 0) := (blk_cell BK102.out 2).trans rfl; have hfz130_0 := blk_frozen BK102.out 0; have hfz130_1 := blk_frozen BK102.out 1; have hfz130_2 := blk_frozen BK102.out 2))
  refine bodyPost_ret (results_cell_row rfl _ _ gb102 35 #[.int .i64 0, .slice none 0 0, .slice none 0 0] (0, 0) _ rfl (by (with_reducible repeat (first | refine blk_drewN ?_ _ | refine blk_drew ?_ | refine blk_alloc ?_ _)); refine blk_put (cs := #[.int .i64 0, .slice none 0 0, .slice none 0 0]) ?_ 2 _ rfl; (with_reducible repeat (first | refine blk_drewN ?_ _ | refine blk_drew ?_ | refine blk_alloc ?_ _)); refine blk_put (cs := #[.int .i64 0, .slice none 0 0, .slice none 0 0]) ?_ 1 _ rfl; (with_reducible repeat (first | refine blk_drewN ?_ _ | refine blk_drew ?_ | refine blk_alloc ?_ _)); refine blk_put (cs := #[.int .i64 0, .slice none 0 0, .slice none 0 0]) ?_ 0 _ rfl; (with_reducible repeat (first | refine blk_drewN ?_ _ | refine blk_drew ?_ | refine blk_alloc ?_ _)); exact BK102.out) Try.underlying35 rfl (by kernel_rfl)) rfl ?_
  exact ⟨_, _, by first | rfl | (simp [errW_none, errW_some] <;> rfl) | (simp [*, errW_none, errW_some] <;> rfl), by first | exact Kd.R_nil _ _ _ _ _ | exact Kd.N_nil _ _ _ _ _ | exact Kd.V_nil _ _ _ _ _ | exact Kd.Q_nil _ _ _ _ _ | exact Kd.S_nil _ _ _ _ _, by first | exact Kd.R_nil _ _ _ _ _ | exact Kd.N_nil _ _ _ _ _ | exact Kd.V_nil _ _ _ _ _ | exact Kd.Q_nil _ _ _ _ _ | exact Kd.S_nil _ _ _ _ _, bB HB.out⟩

end Go.Proofs.Ytaopbkbjfmfcdaa.P
