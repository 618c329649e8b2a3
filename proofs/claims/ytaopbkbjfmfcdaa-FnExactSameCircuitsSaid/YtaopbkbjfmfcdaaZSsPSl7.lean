/- What functions of the program come to, each with the proof that it does, laid by a program of this session out of the translation; no condition is set on any claim. -/
import Derived.Test.YtaopbkbjfmfcdaaZSsPSl0
import Derived.Test.YtaopbkbjfmfcdaaZSsPSl2
import Derived.Test.YtaopbkbjfmfcdaaZSsPSl6
namespace Go.Proofs.Ytaopbkbjfmfcdaa.P
open Go.RowKit Go.Proofs.YtaopbkbjfmfcdaaW.PrintWords Go.Proofs.YtaopbkbjfmfcdaaW.PrintLast Go.Proofs.YtaopbkbjfmfcdaaW.PrintMore
attribute [local go_sem] max2_int min2_int max_two min_two max_three min_three max_four min_four   -- for this text's walks alone
set_option linter.unusedVariables false
set_option linter.unusedSimpArgs false

theorem qa67 {α : Type} (l : List α) (i : Nat) (a : α) : l.toArray.setIfInBounds i a = (l.set i a).toArray := List.setIfInBounds_toArray ..
theorem qb67 {α : Type} (x a : α) (l : List α) : (x :: l).set 0 a = a :: l := rfl
theorem qc67 {α : Type} (x a : α) (l : List α) (n : Nat) : (x :: l).set (n + 1) a = x :: l.set n a := rfl
abbrev q67_0 : Array Bool := #[false, false, false, false, false, false, false, false, false, false, false, false, false, false, false, false, false, false, false, false, false]
abbrev q67_1 : Array Bool := #[true, false, false, false, false, false, false, false, false, false, false, false, false, false, false, false, false, false, false, false, false]
abbrev q67_2 : Array Bool := #[true, true, false, false, false, false, false, false, false, false, false, false, false, false, false, false, false, false, false, false, false]
abbrev q67_3 : Array Bool := #[true, true, true, false, false, false, false, false, false, false, false, false, false, false, false, false, false, false, false, false, false]
abbrev q67_4 : Array Bool := #[true, true, true, false, false, false, false, false, true, false, false, false, false, false, false, false, false, false, false, false, false]
abbrev q67_5 : Array Bool := #[true, true, true, false, false, false, false, false, true, true, false, false, false, false, false, false, false, false, false, false, false]
abbrev q67_6 : Array Bool := #[true, true, true, false, false, false, false, false, true, true, false, false, false, false, false, true, false, false, false, false, false]
abbrev q67_7 : Array Bool := #[true, true, true, true, false, false, false, false, true, true, false, false, false, false, false, true, false, false, false, false, false]
abbrev q67_8 : Array Bool := #[true, true, true, true, true, false, false, false, true, true, false, false, false, false, false, true, false, false, false, false, false]
abbrev q67_9 : Array Bool := #[true, true, true, true, true, true, false, false, true, true, false, false, false, false, false, true, false, false, false, false, false]
abbrev q67_10 : Array Bool := #[true, true, true, true, true, true, true, false, true, true, false, false, false, false, false, true, false, false, false, false, false]
abbrev q67_11 : Array Bool := #[true, true, true, true, true, true, true, true, true, true, false, false, false, false, false, true, false, false, false, false, false]
abbrev q67_12 : Array Bool := #[true, true, true, true, true, true, true, true, true, true, true, false, false, false, false, true, false, false, false, false, false]
abbrev q67_13 : Array Bool := #[true, true, true, true, true, true, true, true, true, true, true, true, false, false, false, true, false, false, false, false, false]
abbrev q67_14 : Array Bool := #[true, true, true, true, true, true, true, true, true, true, true, true, true, false, false, true, false, false, false, false, false]
abbrev q67_15 : Array Bool := #[true, true, true, true, true, true, true, true, true, true, true, true, true, true, false, true, false, false, false, false, false]
abbrev q67_16 : Array Bool := #[true, true, true, true, true, true, true, true, true, true, true, true, true, true, true, true, false, false, false, false, false]
abbrev q67_17 : Array Bool := #[true, true, true, true, true, true, true, true, true, true, true, true, true, true, true, true, true, false, false, false, false]
abbrev q67_18 : Array Bool := #[true, true, true, true, true, true, true, true, true, true, true, true, true, true, true, true, true, true, false, false, false]
abbrev q67_19 : Array Bool := #[true, true, true, true, true, true, true, true, true, true, true, true, true, true, true, true, true, true, true, false, false]
abbrev q67_20 : Array Bool := #[true, true, true, true, true, true, true, true, true, true, true, true, true, true, true, true, true, true, true, true, false]
abbrev q67_21 : Array Bool := #[true, true, true, true, true, true, true, true, true, true, true, true, true, true, true, true, true, true, true, true, true]
/-! ### spec_l6Lines: function 67 -/
def spec_l6Lines.l0 : Nat → List Int → List (S46) → Int → Int → Option (List Int)
 | 0, _, _, _, _ => none
 | k + 1, x5, x12, x13, x14 => if x14 < x13 then (if 0 ≤ x14 then (if x14 < (x12.length : Int) then (if 0 ≤ ((rd_T46 x12 x14).f1) then (if ((rd_T46 x12 x14).f1) < (x5.length : Int) then (if 0 ≤ ((rd_T46 x12 x14).f2) then (if ((rd_T46 x12 x14).f2) < (x5.length : Int) then (if 0 ≤ (wrap64 ((wrap64 ((wrap64 (3 * (wrap64 ((rd x5 ((rd_T46 x12 x14).f1)) + 1)))) + (rd x5 ((rd_T46 x12 x14).f2)))) + 1)) then (if (wrap64 ((wrap64 ((wrap64 (3 * (wrap64 ((rd x5 ((rd_T46 x12 x14).f1)) + 1)))) + (rd x5 ((rd_T46 x12 x14).f2)))) + 1)) < 9 then (if x5.length < 17592186044416 then (spec_l6Lines.l0 k (x5 ++ [rd ([(rd_T46 x12 x14).f0.f0, (rd_T46 x12 x14).f0.f1, (rd_T46 x12 x14).f0.f2, (rd_T46 x12 x14).f0.f3, (rd_T46 x12 x14).f0.f4, (rd_T46 x12 x14).f0.f5, (rd_T46 x12 x14).f0.f6, (rd_T46 x12 x14).f0.f7, (rd_T46 x12 x14).f0.f8] : List Int) (wrap64 ((wrap64 ((wrap64 (3 * (wrap64 ((rd x5 ((rd_T46 x12 x14).f1)) + 1)))) + (rd x5 ((rd_T46 x12 x14).f2)))) + 1))]) x12 x13 (wrap64 (x14 + 1))) else (none)) else (none)) else (none)) else (none)) else (none)) else (none)) else (none)) else (none)) else (none)) else (some x5)
def spec_l6Lines.f (k : Nat) (a0_0 : Int) (l0_1 : List (S46)) (l0_2 : List Int) (l1 : List Int) : Option (List Int) := (some (([(-1), 0, 1] : List Int) : List Int)).bind fun y102 => (if y102.length + l1.length < 17592186044416 then (spec_l6Lines.l0 k (y102 ++ l1) l0_1 (l0_1.length : Int) 0) else (none))
def spec_l6Lines.T5 : Bool × List (List Nat × List Nat) := (true, [([], []), ([], []), ([], []), ([2], [2]), ([1, 3], [1, 3]), ([4], [4]), ([5], [5]), ([6], [6]), ([], []), ([], []), ([9], [9]), ([8, 10], [8, 10]), ([11], [11]), ([7, 12], [7, 12]), ([13], [13]), ([], []), ([15, 14], [14, 15]), ([16], [16]), ([17], [17]), ([0, 18], [0, 18]), ([19, 19, 0, 1, 2, 3, 4, 5, 6, 7, 8, 9, 10, 11, 12, 13, 14, 15, 16, 17, 18, 19], [0, 1, 8, 19])])
def spec_l6Lines.B5 : List Nat := [0, 0, 0, 4, 14, 30, 62, 126, 0, 0, 512, 1792, 3840, 8190, 16382, 0, 65534, 131070, 262142, 524287, 1048575]
theorem spec_l6Lines.tab5 : rtab .any (opsOf Try.f67 5) = spec_l6Lines.T5 := by kernel_rfl
theorem spec_l6Lines.bits5 : waitsOk spec_l6Lines.T5.2 spec_l6Lines.B5 = true := by kernel_rfl
set_option maxHeartbeats 8000000 in
set_option maxRecDepth 100000 in
theorem spec_l6Lines.calls (k : Nat) (a0_0 : Int) (A0_1 : Option Addr) (c0_1 : Nat) (l0_1 : List (S46)) (A0_2 : Option Addr) (c0_2 : Nat) (l0_2 : List Int) (A1 : Option Addr) (c1 : Nat) (l1 : List Int) (r : List Int) (w : World) (hr0_1 : Kd.C k46 w A0_1 l0_1.length l0_1) (hc0_1 : l0_1.length ≤ c0_1) (hr0_2 : Kd.C (Kd.int .i64) w A0_2 l0_2.length l0_2) (hc0_2 : l0_2.length ≤ c0_2) (hr1 : Kd.C (Kd.int .i64) w A1 l1.length l1) (hc1 : l1.length ≤ c1) (h : spec_l6Lines.f k a0_0 l0_1 l0_2 l1 = some r) :
  Calls Try.prog 67 #[.agg #[.int .i64 a0_0, .slice A0_1 l0_1.length c0_1, .slice A0_2 l0_2.length c0_2], .slice A1 l1.length c1] w fun e w' => ∃ v0_ : Value, e = .returned (v0_) ∧ Kd.R (Kd.int .i64) 3 w' w.heap.size (fun _ => True) v0_ r ∧ Below w.heap.size w w' := by
 have hu35 := Try.underlying35; have hu46 := Try.underlying46; have HR0_1 := am hr0_1; have HC0_1 := am hc0_1; clear hr0_1 hc0_1; have HR0_2 := am hr0_2; have HC0_2 := am hc0_2; clear hr0_2 hc0_2; have HR1 := am hr1; have HC1 := am hc1; clear hr1 hc1; have HB := am (Below.refl w.heap.size w)
 have H : ((some (([(-1), 0, 1] : List Int) : List Int)).bind fun y102 => (if y102.length + l1.length < 17592186044416 then (spec_l6Lines.l0 k (y102 ++ l1) l0_1 (l0_1.length : Int) 0) else (none))) = some r := h
 clear h
 obtain ⟨y102, hy102⟩ : ∃ y_ : List Int, y_ = (([(-1), 0, 1] : List Int)) := ⟨_, rfl⟩
 replace H : (if y102.length + l1.length < 17592186044416 then (spec_l6Lines.l0 k (y102 ++ l1) l0_1 (l0_1.length : Int) 0) else (none)) = some r := by first | (rw [hy102]; with_reducible exact H) | (have H2_ := (Option.bind_some _ _).symm.trans H; rw [hy102]; with_reducible exact H2_) | (have H2_ := (Option.bind_some _ _).symm.trans H; with_reducible exact H2_) | with_reducible exact H | (rw [hy102]; exact H) | exact H
 have Ny102 := am hy102; clear hy102
 by_cases c3 : y102.length + l1.length < 17592186044416
 ·rw [if_pos c3] at H
  have LMc3 := am c3; clear c3
  obtain ⟨y105, hy105⟩ : ∃ y_ : List Int, y_ = (y102 ++ l1) := ⟨_, rfl⟩
  replace H : (spec_l6Lines.l0 k y105 l0_1 (l0_1.length : Int) 0) = some r := by first | (rw [hy105]; with_reducible exact H) | (have H2_ := (Option.bind_some _ _).symm.trans H; rw [hy105]; with_reducible exact H2_) | (have H2_ := (Option.bind_some _ _).symm.trans H; with_reducible exact H2_) | with_reducible exact H | (rw [hy105]; exact H) | exact H
  have Ny105 := am hy105; clear hy105
  have H' := am H
  clear H
  go_enter Try.func67, Try.ntmps67
  go_wp2_with (first | ((with_reducible refine gate_dst (N := 2) rfl ?_); refine box_event ?hg (N := 2) ?hd (cs := #[.int .i64 a0_0, .slice A0_1 l0_1.length c0_1, .slice A0_2 l0_2.length c0_2]) (t := 35) ?hr ?_; (case hd => rfl); (case hg => rfl); (case hr => first | (go_simp; done) | (go_simp; rfl)); intro gb101 hg w4 hbox hb; have n0_ := am (below_step (bB HB.out) hb); have n1_ := am (hbox); have n2_ := am ((by rw [hg]; exact (below_size (bB HB.out)) : w.heap.size ≤ gb101)); have n3_ := am ((by rw [hg]; exact (below_size (bB HB.out)) : w.heap.size ≤ gb101)); clear HB; have HB := n0_; have BK101 := n1_; have GW101 := n2_; have GE101 := n3_; clear n0_ n1_ n2_ n3_; clear hb hbox hg) | ((with_reducible refine gate_dst (N := 8) rfl ?_); refine Kd.R_lit (Kd.int .i64) _ 3 ?hg (N := 8) ?hd (xs := ([(-1), 0, 1] : List Int)) (inner := [.int .i64 (-1), .int .i64 0, .int .i64 1]) (ok := fun _ => True) (okp := fun _ => True) ?hr ?hp (fun _ hk => hk) trivial (Below.refl _ _) (Nat.le_refl _) (by simp) ?_; (case hd => rfl); (case hg => rfl); (case hr => first | (go_simp; done) | (go_simp; rfl)); (case hp => exact (Reps.one (show Kd.M (Kd.int .i64) _ _ _ (-1) [.int .i64 (-1)] from rfl) (Reps.one (show Kd.M (Kd.int .i64) _ _ _ 0 [.int .i64 0] from rfl) (Reps.one (show Kd.M (Kd.int .i64) _ _ _ 1 [.int .i64 1] from rfl) (Reps.none _ _))))); intro v103 w5 ho6 hb hg_ hnew_; clear hg_ hnew_; (first | rw [← Ny102.out] at ho6 | (simp only [Int.reduceToNat] at ho6; rw [← Ny102.out] at ho6)); have n0_ := am (Kd.R_lower ho6 (below_size (bB HB.out))); have n1_ := am (blk_below (bA BK101.out) hb); have n2_ := am (below_step (bB HB.out) hb); clear BK101; clear HB; have HO104 := n0_; have BK101 := n1_; have HB := n2_; clear n0_ n1_ n2_; clear hb ho6) | ((with_reducible refine gate_builtin (b := .append) (xs := #[.tmp 8, .tmp 9]) rfl ?_); at_builtin; refine Kd.R_append_rows (Kd.int .i64) (w0 := w) w.heap.size rfl (.tmp 8) (.tmp 9) 28 3 (.int .i64 0) 8 rfl Try.underlying28 info3 rfl (by decide) (by omega) v103 y102 l1 _ _ _ (fun _ => True) (fun _ => False) rfl rfl ?aO ?aR (fun _ _ h => h) (fun _ h => h.elim) ?aF ?aB ?aS ?aL ?_; (case aR => exact bD ((Kd.C_below HR1.out HB.out))); (case aB => exact (bB HB.out)); (case aF => exact (fun _ _ => trivial)); (case aO => exact (bC HO104.out)); (case aS => exact (below_size (bB HB.out))); (case aL => have := LMc3.out; omega); intro v106 w7 ho hb hg hat; rw [← Ny105.out] at ho; have n0_ := am (blk_grown (g := gb101) (o := .cells #[.int .i64 a0_0, .slice A0_1 l0_1.length c0_1, .slice A0_2 l0_2.length c0_2] 35 (0, 0)) (bA BK101.out) hg (Kd.R_ne HO104.out BK101.out (by decide))); have n1_ := am (hb); have n2_ := am (ho); clear BK101; clear HB; clear HO104; have BK101 := n0_; have HB := n1_; have HO107 := n2_; clear n0_ n1_ n2_; clear ho hb hg hat; have hcz8_0 : w7.cell? ⟨gb101, 0, none⟩ = some (.int .i64 a0_0) := (blk_cell BK101.out 0).trans rfl; have hcz8_1 : w7.cell? ⟨gb101, 1, none⟩ = some (.slice A0_1 l0_1.length c0_1) := (blk_cell BK101.out 1).trans rfl; have hcz8_2 : w7.cell? ⟨gb101, 2, none⟩ = some (.slice A0_2 l0_2.length c0_2) := (blk_cell BK101.out 2).trans rfl; have hfz8_0 := blk_frozen BK101.out 0; have hfz8_1 := blk_frozen BK101.out 1; have hfz8_2 := blk_frozen BK101.out 2))
  go_loopg [5, 14] k (fun kq v5 v14 w' => ∃ (x5_1 : List Int) (x14_1 : Int), v14 = .int .i64 x14_1 ∧ Aside0 (spec_l6Lines.l0 kq x5_1 l0_1 (l0_1.length : Int) x14_1 = some r) ∧ Aside0 (kq ≤ k) ∧ Aside0 (Kd.R (Kd.int .i64) 3 w' w.heap.size (fun _ => True) v5 x5_1) ∧ Aside0 (w'.heap[gb101]? = some (.cells #[.int .i64 a0_0, (.slice A0_1 l0_1.length c0_1), (.slice A0_2 l0_2.length c0_2)] 35 (0, 0))) ∧ Aside0 (Below w.heap.size w w'))
  case atStart => exact ⟨(y105), (0), (by first | rfl | (simp; done) | (simp [*]; done)), H', ⟨Nat.le_refl _⟩, ⟨by (with_reducible repeat (first | apply Kd.R_alloc | apply Kd.R_drewN | apply Kd.R_drew)); exact HO107.out⟩, ⟨bA BK101.out⟩, ⟨bB HB.out⟩⟩
  case round =>
   clear H'
   try clear c1
   try clear p2
   try clear c3
   try clear c6
   try clear hcz8_0
   try clear hcz8_1
   try clear hcz8_2
   try clear hfz8_0
   try clear hfz8_1
   try clear hfz8_2
   obtain ⟨x5_1, x14_1, rfl, HA, HK1, HO_5, BK101, HB⟩ := hrel
   cases gk with
   | zero => exact absurd HA.out (by simp [spec_l6Lines.l0])
   | succ k1 =>
    have H := HA.out; clear HA
    simp only [spec_l6Lines.l0] at H
    by_cases c9 : x14_1 < (l0_1.length : Int)
    ·rw [if_pos c9] at H
     have c9b0 : decide (x14_1 < (l0_1.length : Int)) = true := decide_eq_true c9
     clear c9
     by_cases c10 : 0 ≤ x14_1
     ·rw [if_pos c10] at H
      have c10b0 : decide (0 ≤ x14_1) = true := decide_eq_true c10
      clear c10
      by_cases c11 : x14_1 < (l0_1.length : Int)
      ·rw [if_pos c11] at H
       have c11b0 : decide (x14_1 < (l0_1.length : Int)) = true := decide_eq_true c11
       clear c11
       by_cases c12 : 0 ≤ ((rd_T46 l0_1 x14_1).f1)
       ·rw [if_pos c12] at H
        have c12b0 : decide (0 ≤ ((rd_T46 l0_1 x14_1).f1)) = true := decide_eq_true c12
        clear c12
        by_cases c13 : ((rd_T46 l0_1 x14_1).f1) < (x5_1.length : Int)
        ·rw [if_pos c13] at H
         have c13b0 : decide (((rd_T46 l0_1 x14_1).f1) < (x5_1.length : Int)) = true := decide_eq_true c13
         clear c13
         by_cases c14 : 0 ≤ ((rd_T46 l0_1 x14_1).f2)
         ·rw [if_pos c14] at H
          have c14b0 : decide (0 ≤ ((rd_T46 l0_1 x14_1).f2)) = true := decide_eq_true c14
          clear c14
          by_cases c15 : ((rd_T46 l0_1 x14_1).f2) < (x5_1.length : Int)
          ·rw [if_pos c15] at H
           have c15b0 : decide (((rd_T46 l0_1 x14_1).f2) < (x5_1.length : Int)) = true := decide_eq_true c15
           clear c15
           obtain ⟨ji16, hji16⟩ : ∃ j_ : Int, (wrap64 ((wrap64 ((wrap64 (3 * (wrap64 ((rd x5_1 ((rd_T46 l0_1 x14_1).f1)) + 1)))) + (rd x5_1 ((rd_T46 l0_1 x14_1).f2)))) + 1)) = j_ := ⟨_, rfl⟩
           replace H : (if 0 ≤ (ji16) then (if (ji16) < 9 then (if x5_1.length < 17592186044416 then (spec_l6Lines.l0 k1 (x5_1 ++ [rd ([(rd_T46 l0_1 x14_1).f0.f0, (rd_T46 l0_1 x14_1).f0.f1, (rd_T46 l0_1 x14_1).f0.f2, (rd_T46 l0_1 x14_1).f0.f3, (rd_T46 l0_1 x14_1).f0.f4, (rd_T46 l0_1 x14_1).f0.f5, (rd_T46 l0_1 x14_1).f0.f6, (rd_T46 l0_1 x14_1).f0.f7, (rd_T46 l0_1 x14_1).f0.f8] : List Int) (ji16)]) l0_1 (l0_1.length : Int) (wrap64 (x14_1 + 1))) else (none)) else (none)) else (none)) = some r := by first | (rw [hji16] at H; exact H) | (simp only [hji16] at H ⊢; exact H)
           have hji16w : (IntKind.i64.wrap ((wrap64 ((wrap64 (3 * (wrap64 ((rd x5_1 ((rd_T46 l0_1 x14_1).f1)) + 1)))) + (rd x5_1 ((rd_T46 l0_1 x14_1).f2)))) + 1)) = ji16 := (i64_w _).trans hji16
           by_cases c17 : 0 ≤ (ji16)
           ·rw [if_pos c17] at H
            have c17b0 : decide (0 ≤ (ji16)) = true := decide_eq_true c17
            clear c17
            by_cases c18 : (ji16) < 9
            ·rw [if_pos c18] at H
             have c18b0 : decide ((ji16) < 9) = true := decide_eq_true c18
             clear c18
             by_cases c19 : x5_1.length < 17592186044416
             ·rw [if_pos c19] at H
              have LMc19 := am c19; clear c19
              obtain ⟨y112, hy112⟩ : ∃ y_ : List Int, y_ = (x5_1 ++ [rd ([(rd_T46 l0_1 x14_1).f0.f0, (rd_T46 l0_1 x14_1).f0.f1, (rd_T46 l0_1 x14_1).f0.f2, (rd_T46 l0_1 x14_1).f0.f3, (rd_T46 l0_1 x14_1).f0.f4, (rd_T46 l0_1 x14_1).f0.f5, (rd_T46 l0_1 x14_1).f0.f6, (rd_T46 l0_1 x14_1).f0.f7, (rd_T46 l0_1 x14_1).f0.f8] : List Int) (ji16)]) := ⟨_, rfl⟩
              replace H : (spec_l6Lines.l0 k1 y112 l0_1 (l0_1.length : Int) (wrap64 (x14_1 + 1))) = some r := by first | (rw [hy112]; with_reducible exact H) | (have H2_ := (Option.bind_some _ _).symm.trans H; rw [hy112]; with_reducible exact H2_) | (have H2_ := (Option.bind_some _ _).symm.trans H; with_reducible exact H2_) | with_reducible exact H | (rw [hy112]; exact H) | exact H
              have Ny112 := am hy112; clear hy112
              have H' := am H
              clear H
              have p108 : 0 ≤ (x14_1 : Int) := of_decide_eq_true (by assumption)
              have q108 : x14_1 < (l0_1.length : Int) := of_decide_eq_true (by assumption)
              obtain ⟨ad108, e108, hx108_0, hx108_1, hx108_2, hx108_3, hx108_4, hx108_5, hx108_6, hx108_7, hx108_8, hx108_9, hx108_10⟩ := at_T46 HR0_1.out x14_1 p108 q108
              cases e108
              replace hx108_0 := (HB.out.cell (World.block_lt_of_cell? w _ hx108_0)).trans hx108_0
              replace hx108_1 := (HB.out.cell (World.block_lt_of_cell? w _ hx108_1)).trans hx108_1
              replace hx108_2 := (HB.out.cell (World.block_lt_of_cell? w _ hx108_2)).trans hx108_2
              replace hx108_3 := (HB.out.cell (World.block_lt_of_cell? w _ hx108_3)).trans hx108_3
              replace hx108_4 := (HB.out.cell (World.block_lt_of_cell? w _ hx108_4)).trans hx108_4
              replace hx108_5 := (HB.out.cell (World.block_lt_of_cell? w _ hx108_5)).trans hx108_5
              replace hx108_6 := (HB.out.cell (World.block_lt_of_cell? w _ hx108_6)).trans hx108_6
              replace hx108_7 := (HB.out.cell (World.block_lt_of_cell? w _ hx108_7)).trans hx108_7
              replace hx108_8 := (HB.out.cell (World.block_lt_of_cell? w _ hx108_8)).trans hx108_8
              replace hx108_9 := (HB.out.cell (World.block_lt_of_cell? w _ hx108_9)).trans hx108_9
              replace hx108_10 := (HB.out.cell (World.block_lt_of_cell? w _ hx108_10)).trans hx108_10
              replace p108 := eq_true p108
              replace q108 := eq_true q108
              try go_wp2_with (first | ((with_reducible refine gate_dst (N := 7) rfl ?_); refine box_event ?hg (N := 7) ?hd (cs := #[.int .i64 0, .int .i64 0, .int .i64 0, .int .i64 0, .int .i64 0, .int .i64 0, .int .i64 0, .int .i64 0, .int .i64 0, .int .i64 0, .int .i64 0]) (t := 46) ?hr ?_; (case hd => rfl); (case hg => rfl); (case hr => first | (go_simp; done) | (go_simp; rfl)); intro gb109 hg w20 hbox hb; have n0_ := am (Kd.R_below (bC HO_5.out) hb); have n1_ := am (blk_below (bA BK101.out) hb); have n2_ := am (below_step (bB HB.out) hb); have n3_ := am (hbox); have n4_ := am ((by rw [hg]; exact (below_size (bB HB.out)) : w.heap.size ≤ gb109)); have n5_ := am ((by rw [hg]; exact (below_size (bB HB.out)) : w.heap.size ≤ gb109)); have n6_ := am ((by rw [hg]; exact Nat.ne_of_lt (blk_lt (g := gb101) (o := .cells #[.int .i64 a0_0, .slice (some ad108) l0_1.length c0_1, .slice A0_2 l0_2.length c0_2] 35 (0, 0)) (bA BK101.out)) : gb101 ≠ gb109)); have n7_ := am ((by rw [hg]; exact Nat.ne_of_gt (blk_lt (g := gb101) (o := .cells #[.int .i64 a0_0, .slice (some ad108) l0_1.length c0_1, .slice A0_2 l0_2.length c0_2] 35 (0, 0)) (bA BK101.out)) : gb109 ≠ gb101)); clear HO_5; clear BK101; clear HB; have HO_5 := n0_; have BK101 := n1_; have HB := n2_; have BK109 := n3_; have GW109 := n4_; have GE109 := n5_; have NB101_109 := n6_; have NB109_101 := n7_; clear n0_ n1_ n2_ n3_ n4_ n5_ n6_ n7_; clear hb hbox hg; have hnb21 := NB109_101.out; have hnc21 := NB101_109.out; have hcz22_0 : w20.cell? ⟨gb109, 0, none⟩ = some (.int .i64 0) := (blk_cell BK109.out 0).trans rfl; have hcz22_1 : w20.cell? ⟨gb109, 1, none⟩ = some (.int .i64 0) := (blk_cell BK109.out 1).trans rfl; have hcz22_2 : w20.cell? ⟨gb109, 2, none⟩ = some (.int .i64 0) := (blk_cell BK109.out 2).trans rfl; have hcz22_3 : w20.cell? ⟨gb109, 3, none⟩ = some (.int .i64 0) := (blk_cell BK109.out 3).trans rfl; have hcz22_4 : w20.cell? ⟨gb109, 4, none⟩ = some (.int .i64 0) := (blk_cell BK109.out 4).trans rfl; have hcz22_5 : w20.cell? ⟨gb109, 5, none⟩ = some (.int .i64 0) := (blk_cell BK109.out 5).trans rfl; have hcz22_6 : w20.cell? ⟨gb109, 6, none⟩ = some (.int .i64 0) := (blk_cell BK109.out 6).trans rfl; have hcz22_7 : w20.cell? ⟨gb109, 7, none⟩ = some (.int .i64 0) := (blk_cell BK109.out 7).trans rfl; have hcz22_8 : w20.cell? ⟨gb109, 8, none⟩ = some (.int .i64 0) := (blk_cell BK109.out 8).trans rfl; have hcz22_9 : w20.cell? ⟨gb109, 9, none⟩ = some (.int .i64 0) := (blk_cell BK109.out 9).trans rfl; have hcz22_10 : w20.cell? ⟨gb109, 10, none⟩ = some (.int .i64 0) := (blk_cell BK109.out 10).trans rfl; have hfz22_0 := blk_frozen BK109.out 0; have hfz22_1 := blk_frozen BK109.out 1; have hfz22_2 := blk_frozen BK109.out 2; have hfz22_3 := blk_frozen BK109.out 3; have hfz22_4 := blk_frozen BK109.out 4; have hfz22_5 := blk_frozen BK109.out 5; have hfz22_6 := blk_frozen BK109.out 6; have hfz22_7 := blk_frozen BK109.out 7; have hfz22_8 := blk_frozen BK109.out 8; have hfz22_9 := blk_frozen BK109.out 9; have hfz22_10 := blk_frozen BK109.out 10))
              have n0_ : Aside0 (Kd.R (Kd.int .i64) 3 (((((((((((w20.setCell ⟨gb109, 0, none⟩ (.int .i64 ((rd_T46 l0_1 x14_1).f0.f0))).setCell ⟨gb109, 1, none⟩ (.int .i64 ((rd_T46 l0_1 x14_1).f0.f1))).setCell ⟨gb109, 2, none⟩ (.int .i64 ((rd_T46 l0_1 x14_1).f0.f2))).setCell ⟨gb109, 3, none⟩ (.int .i64 ((rd_T46 l0_1 x14_1).f0.f3))).setCell ⟨gb109, 4, none⟩ (.int .i64 ((rd_T46 l0_1 x14_1).f0.f4))).setCell ⟨gb109, 5, none⟩ (.int .i64 ((rd_T46 l0_1 x14_1).f0.f5))).setCell ⟨gb109, 6, none⟩ (.int .i64 ((rd_T46 l0_1 x14_1).f0.f6))).setCell ⟨gb109, 7, none⟩ (.int .i64 ((rd_T46 l0_1 x14_1).f0.f7))).setCell ⟨gb109, 8, none⟩ (.int .i64 ((rd_T46 l0_1 x14_1).f0.f8))).setCell ⟨gb109, 9, none⟩ (.int .i64 ((rd_T46 l0_1 x14_1).f1))).setCell ⟨gb109, 10, none⟩ (.int .i64 ((rd_T46 l0_1 x14_1).f2))) w.heap.size (fun _ => True) u5 x5_1) := ⟨by (with_reducible repeat (first | apply Kd.R_alloc | apply Kd.R_drewN | apply Kd.R_drew)); exact Kd.R_mono (Kd.R_far (p := ⟨gb109, 10, none⟩) (Kd.R_far (p := ⟨gb109, 9, none⟩) (Kd.R_far (p := ⟨gb109, 8, none⟩) (Kd.R_far (p := ⟨gb109, 7, none⟩) (Kd.R_far (p := ⟨gb109, 6, none⟩) (Kd.R_far (p := ⟨gb109, 5, none⟩) (Kd.R_far (p := ⟨gb109, 4, none⟩) (Kd.R_far (p := ⟨gb109, 3, none⟩) (Kd.R_far (p := ⟨gb109, 2, none⟩) (Kd.R_far (p := ⟨gb109, 1, none⟩) (Kd.R_far (p := ⟨gb109, 0, none⟩) (Kd.R_types HO_5.out BK109.out (by decide)) (fun _ hk => hk.2) (.int .i64 ((rd_T46 l0_1 x14_1).f0.f0))) (fun _ hk => hk.2) (.int .i64 ((rd_T46 l0_1 x14_1).f0.f1))) (fun _ hk => hk.2) (.int .i64 ((rd_T46 l0_1 x14_1).f0.f2))) (fun _ hk => hk.2) (.int .i64 ((rd_T46 l0_1 x14_1).f0.f3))) (fun _ hk => hk.2) (.int .i64 ((rd_T46 l0_1 x14_1).f0.f4))) (fun _ hk => hk.2) (.int .i64 ((rd_T46 l0_1 x14_1).f0.f5))) (fun _ hk => hk.2) (.int .i64 ((rd_T46 l0_1 x14_1).f0.f6))) (fun _ hk => hk.2) (.int .i64 ((rd_T46 l0_1 x14_1).f0.f7))) (fun _ hk => hk.2) (.int .i64 ((rd_T46 l0_1 x14_1).f0.f8))) (fun _ hk => hk.2) (.int .i64 ((rd_T46 l0_1 x14_1).f1))) (fun _ hk => hk.2) (.int .i64 ((rd_T46 l0_1 x14_1).f2))) (fun _ hk => trivial)⟩
              have n1_ : Aside0 ((((((((((((w20.setCell ⟨gb109, 0, none⟩ (.int .i64 ((rd_T46 l0_1 x14_1).f0.f0))).setCell ⟨gb109, 1, none⟩ (.int .i64 ((rd_T46 l0_1 x14_1).f0.f1))).setCell ⟨gb109, 2, none⟩ (.int .i64 ((rd_T46 l0_1 x14_1).f0.f2))).setCell ⟨gb109, 3, none⟩ (.int .i64 ((rd_T46 l0_1 x14_1).f0.f3))).setCell ⟨gb109, 4, none⟩ (.int .i64 ((rd_T46 l0_1 x14_1).f0.f4))).setCell ⟨gb109, 5, none⟩ (.int .i64 ((rd_T46 l0_1 x14_1).f0.f5))).setCell ⟨gb109, 6, none⟩ (.int .i64 ((rd_T46 l0_1 x14_1).f0.f6))).setCell ⟨gb109, 7, none⟩ (.int .i64 ((rd_T46 l0_1 x14_1).f0.f7))).setCell ⟨gb109, 8, none⟩ (.int .i64 ((rd_T46 l0_1 x14_1).f0.f8))).setCell ⟨gb109, 9, none⟩ (.int .i64 ((rd_T46 l0_1 x14_1).f1))).setCell ⟨gb109, 10, none⟩ (.int .i64 ((rd_T46 l0_1 x14_1).f2))).heap[gb101]? = some (.cells #[.int .i64 a0_0, .slice (some ad108) l0_1.length c0_1, .slice A0_2 l0_2.length c0_2] 35 (0, 0))) := ⟨by (with_reducible repeat (first | refine blk_drewN ?_ _ | refine blk_drew ?_ | refine blk_alloc ?_ _)); refine blk_far ?_ NB101_109.out _; (with_reducible repeat (first | refine blk_drewN ?_ _ | refine blk_drew ?_ | refine blk_alloc ?_ _)); refine blk_far ?_ NB101_109.out _; (with_reducible repeat (first | refine blk_drewN ?_ _ | refine blk_drew ?_ | refine blk_alloc ?_ _)); refine blk_far ?_ NB101_109.out _; (with_reducible repeat (first | refine blk_drewN ?_ _ | refine blk_drew ?_ | refine blk_alloc ?_ _)); refine blk_far ?_ NB101_109.out _; (with_reducible repeat (first | refine blk_drewN ?_ _ | refine blk_drew ?_ | refine blk_alloc ?_ _)); refine blk_far ?_ NB101_109.out _; (with_reducible repeat (first | refine blk_drewN ?_ _ | refine blk_drew ?_ | refine blk_alloc ?_ _)); refine blk_far ?_ NB101_109.out _; (with_reducible repeat (first | refine blk_drewN ?_ _ | refine blk_drew ?_ | refine blk_alloc ?_ _)); refine blk_far ?_ NB101_109.out _; (with_reducible repeat (first | refine blk_drewN ?_ _ | refine blk_drew ?_ | refine blk_alloc ?_ _)); refine blk_far ?_ NB101_109.out _; (with_reducible repeat (first | refine blk_drewN ?_ _ | refine blk_drew ?_ | refine blk_alloc ?_ _)); refine blk_far ?_ NB101_109.out _; (with_reducible repeat (first | refine blk_drewN ?_ _ | refine blk_drew ?_ | refine blk_alloc ?_ _)); refine blk_far ?_ NB101_109.out _; (with_reducible repeat (first | refine blk_drewN ?_ _ | refine blk_drew ?_ | refine blk_alloc ?_ _)); refine blk_far ?_ NB101_109.out _; (with_reducible repeat (first | refine blk_drewN ?_ _ | refine blk_drew ?_ | refine blk_alloc ?_ _)); exact BK101.out⟩
              have n2_ : Aside0 ((((((((((((w20.setCell ⟨gb109, 0, none⟩ (.int .i64 ((rd_T46 l0_1 x14_1).f0.f0))).setCell ⟨gb109, 1, none⟩ (.int .i64 ((rd_T46 l0_1 x14_1).f0.f1))).setCell ⟨gb109, 2, none⟩ (.int .i64 ((rd_T46 l0_1 x14_1).f0.f2))).setCell ⟨gb109, 3, none⟩ (.int .i64 ((rd_T46 l0_1 x14_1).f0.f3))).setCell ⟨gb109, 4, none⟩ (.int .i64 ((rd_T46 l0_1 x14_1).f0.f4))).setCell ⟨gb109, 5, none⟩ (.int .i64 ((rd_T46 l0_1 x14_1).f0.f5))).setCell ⟨gb109, 6, none⟩ (.int .i64 ((rd_T46 l0_1 x14_1).f0.f6))).setCell ⟨gb109, 7, none⟩ (.int .i64 ((rd_T46 l0_1 x14_1).f0.f7))).setCell ⟨gb109, 8, none⟩ (.int .i64 ((rd_T46 l0_1 x14_1).f0.f8))).setCell ⟨gb109, 9, none⟩ (.int .i64 ((rd_T46 l0_1 x14_1).f1))).setCell ⟨gb109, 10, none⟩ (.int .i64 ((rd_T46 l0_1 x14_1).f2))).heap[gb109]? = some (.cells #[.int .i64 ((rd_T46 l0_1 x14_1).f0.f0), .int .i64 ((rd_T46 l0_1 x14_1).f0.f1), .int .i64 ((rd_T46 l0_1 x14_1).f0.f2), .int .i64 ((rd_T46 l0_1 x14_1).f0.f3), .int .i64 ((rd_T46 l0_1 x14_1).f0.f4), .int .i64 ((rd_T46 l0_1 x14_1).f0.f5), .int .i64 ((rd_T46 l0_1 x14_1).f0.f6), .int .i64 ((rd_T46 l0_1 x14_1).f0.f7), .int .i64 ((rd_T46 l0_1 x14_1).f0.f8), .int .i64 ((rd_T46 l0_1 x14_1).f1), .int .i64 ((rd_T46 l0_1 x14_1).f2)] 46 (0, 0))) := ⟨by (with_reducible repeat (first | refine blk_drewN ?_ _ | refine blk_drew ?_ | refine blk_alloc ?_ _)); refine blk_put (cs := #[.int .i64 ((rd_T46 l0_1 x14_1).f0.f0), .int .i64 ((rd_T46 l0_1 x14_1).f0.f1), .int .i64 ((rd_T46 l0_1 x14_1).f0.f2), .int .i64 ((rd_T46 l0_1 x14_1).f0.f3), .int .i64 ((rd_T46 l0_1 x14_1).f0.f4), .int .i64 ((rd_T46 l0_1 x14_1).f0.f5), .int .i64 ((rd_T46 l0_1 x14_1).f0.f6), .int .i64 ((rd_T46 l0_1 x14_1).f0.f7), .int .i64 ((rd_T46 l0_1 x14_1).f0.f8), .int .i64 ((rd_T46 l0_1 x14_1).f1), .int .i64 0]) ?_ 10 _ rfl; (with_reducible repeat (first | refine blk_drewN ?_ _ | refine blk_drew ?_ | refine blk_alloc ?_ _)); refine blk_put (cs := #[.int .i64 ((rd_T46 l0_1 x14_1).f0.f0), .int .i64 ((rd_T46 l0_1 x14_1).f0.f1), .int .i64 ((rd_T46 l0_1 x14_1).f0.f2), .int .i64 ((rd_T46 l0_1 x14_1).f0.f3), .int .i64 ((rd_T46 l0_1 x14_1).f0.f4), .int .i64 ((rd_T46 l0_1 x14_1).f0.f5), .int .i64 ((rd_T46 l0_1 x14_1).f0.f6), .int .i64 ((rd_T46 l0_1 x14_1).f0.f7), .int .i64 ((rd_T46 l0_1 x14_1).f0.f8), .int .i64 0, .int .i64 0]) ?_ 9 _ rfl; (with_reducible repeat (first | refine blk_drewN ?_ _ | refine blk_drew ?_ | refine blk_alloc ?_ _)); refine blk_put (cs := #[.int .i64 ((rd_T46 l0_1 x14_1).f0.f0), .int .i64 ((rd_T46 l0_1 x14_1).f0.f1), .int .i64 ((rd_T46 l0_1 x14_1).f0.f2), .int .i64 ((rd_T46 l0_1 x14_1).f0.f3), .int .i64 ((rd_T46 l0_1 x14_1).f0.f4), .int .i64 ((rd_T46 l0_1 x14_1).f0.f5), .int .i64 ((rd_T46 l0_1 x14_1).f0.f6), .int .i64 ((rd_T46 l0_1 x14_1).f0.f7), .int .i64 0, .int .i64 0, .int .i64 0]) ?_ 8 _ rfl; (with_reducible repeat (first | refine blk_drewN ?_ _ | refine blk_drew ?_ | refine blk_alloc ?_ _)); refine blk_put (cs := #[.int .i64 ((rd_T46 l0_1 x14_1).f0.f0), .int .i64 ((rd_T46 l0_1 x14_1).f0.f1), .int .i64 ((rd_T46 l0_1 x14_1).f0.f2), .int .i64 ((rd_T46 l0_1 x14_1).f0.f3), .int .i64 ((rd_T46 l0_1 x14_1).f0.f4), .int .i64 ((rd_T46 l0_1 x14_1).f0.f5), .int .i64 ((rd_T46 l0_1 x14_1).f0.f6), .int .i64 0, .int .i64 0, .int .i64 0, .int .i64 0]) ?_ 7 _ rfl; (with_reducible repeat (first | refine blk_drewN ?_ _ | refine blk_drew ?_ | refine blk_alloc ?_ _)); refine blk_put (cs := #[.int .i64 ((rd_T46 l0_1 x14_1).f0.f0), .int .i64 ((rd_T46 l0_1 x14_1).f0.f1), .int .i64 ((rd_T46 l0_1 x14_1).f0.f2), .int .i64 ((rd_T46 l0_1 x14_1).f0.f3), .int .i64 ((rd_T46 l0_1 x14_1).f0.f4), .int .i64 ((rd_T46 l0_1 x14_1).f0.f5), .int .i64 0, .int .i64 0, .int .i64 0, .int .i64 0, .int .i64 0]) ?_ 6 _ rfl; (with_reducible repeat (first | refine blk_drewN ?_ _ | refine blk_drew ?_ | refine blk_alloc ?_ _)); refine blk_put (cs := #[.int .i64 ((rd_T46 l0_1 x14_1).f0.f0), .int .i64 ((rd_T46 l0_1 x14_1).f0.f1), .int .i64 ((rd_T46 l0_1 x14_1).f0.f2), .int .i64 ((rd_T46 l0_1 x14_1).f0.f3), .int .i64 ((rd_T46 l0_1 x14_1).f0.f4), .int .i64 0, .int .i64 0, .int .i64 0, .int .i64 0, .int .i64 0, .int .i64 0]) ?_ 5 _ rfl; (with_reducible repeat (first | refine blk_drewN ?_ _ | refine blk_drew ?_ | refine blk_alloc ?_ _)); refine blk_put (cs := #[.int .i64 ((rd_T46 l0_1 x14_1).f0.f0), .int .i64 ((rd_T46 l0_1 x14_1).f0.f1), .int .i64 ((rd_T46 l0_1 x14_1).f0.f2), .int .i64 ((rd_T46 l0_1 x14_1).f0.f3), .int .i64 0, .int .i64 0, .int .i64 0, .int .i64 0, .int .i64 0, .int .i64 0, .int .i64 0]) ?_ 4 _ rfl; (with_reducible repeat (first | refine blk_drewN ?_ _ | refine blk_drew ?_ | refine blk_alloc ?_ _)); refine blk_put (cs := #[.int .i64 ((rd_T46 l0_1 x14_1).f0.f0), .int .i64 ((rd_T46 l0_1 x14_1).f0.f1), .int .i64 ((rd_T46 l0_1 x14_1).f0.f2), .int .i64 0, .int .i64 0, .int .i64 0, .int .i64 0, .int .i64 0, .int .i64 0, .int .i64 0, .int .i64 0]) ?_ 3 _ rfl; (with_reducible repeat (first | refine blk_drewN ?_ _ | refine blk_drew ?_ | refine blk_alloc ?_ _)); refine blk_put (cs := #[.int .i64 ((rd_T46 l0_1 x14_1).f0.f0), .int .i64 ((rd_T46 l0_1 x14_1).f0.f1), .int .i64 0, .int .i64 0, .int .i64 0, .int .i64 0, .int .i64 0, .int .i64 0, .int .i64 0, .int .i64 0, .int .i64 0]) ?_ 2 _ rfl; (with_reducible repeat (first | refine blk_drewN ?_ _ | refine blk_drew ?_ | refine blk_alloc ?_ _)); refine blk_put (cs := #[.int .i64 ((rd_T46 l0_1 x14_1).f0.f0), .int .i64 0, .int .i64 0, .int .i64 0, .int .i64 0, .int .i64 0, .int .i64 0, .int .i64 0, .int .i64 0, .int .i64 0, .int .i64 0]) ?_ 1 _ rfl; (with_reducible repeat (first | refine blk_drewN ?_ _ | refine blk_drew ?_ | refine blk_alloc ?_ _)); refine blk_put (cs := #[.int .i64 0, .int .i64 0, .int .i64 0, .int .i64 0, .int .i64 0, .int .i64 0, .int .i64 0, .int .i64 0, .int .i64 0, .int .i64 0, .int .i64 0]) ?_ 0 _ rfl; (with_reducible repeat (first | refine blk_drewN ?_ _ | refine blk_drew ?_ | refine blk_alloc ?_ _)); exact BK109.out⟩
              have n3_ : Aside0 (Below w.heap.size w (((((((((((w20.setCell ⟨gb109, 0, none⟩ (.int .i64 ((rd_T46 l0_1 x14_1).f0.f0))).setCell ⟨gb109, 1, none⟩ (.int .i64 ((rd_T46 l0_1 x14_1).f0.f1))).setCell ⟨gb109, 2, none⟩ (.int .i64 ((rd_T46 l0_1 x14_1).f0.f2))).setCell ⟨gb109, 3, none⟩ (.int .i64 ((rd_T46 l0_1 x14_1).f0.f3))).setCell ⟨gb109, 4, none⟩ (.int .i64 ((rd_T46 l0_1 x14_1).f0.f4))).setCell ⟨gb109, 5, none⟩ (.int .i64 ((rd_T46 l0_1 x14_1).f0.f5))).setCell ⟨gb109, 6, none⟩ (.int .i64 ((rd_T46 l0_1 x14_1).f0.f6))).setCell ⟨gb109, 7, none⟩ (.int .i64 ((rd_T46 l0_1 x14_1).f0.f7))).setCell ⟨gb109, 8, none⟩ (.int .i64 ((rd_T46 l0_1 x14_1).f0.f8))).setCell ⟨gb109, 9, none⟩ (.int .i64 ((rd_T46 l0_1 x14_1).f1))).setCell ⟨gb109, 10, none⟩ (.int .i64 ((rd_T46 l0_1 x14_1).f2)))) := ⟨bB HB.out⟩
              (try clear HO_5); (try clear BK101); (try clear BK109); (try clear HB)
              generalize (((((((((((w20.setCell ⟨gb109, 0, none⟩ (.int .i64 ((rd_T46 l0_1 x14_1).f0.f0))).setCell ⟨gb109, 1, none⟩ (.int .i64 ((rd_T46 l0_1 x14_1).f0.f1))).setCell ⟨gb109, 2, none⟩ (.int .i64 ((rd_T46 l0_1 x14_1).f0.f2))).setCell ⟨gb109, 3, none⟩ (.int .i64 ((rd_T46 l0_1 x14_1).f0.f3))).setCell ⟨gb109, 4, none⟩ (.int .i64 ((rd_T46 l0_1 x14_1).f0.f4))).setCell ⟨gb109, 5, none⟩ (.int .i64 ((rd_T46 l0_1 x14_1).f0.f5))).setCell ⟨gb109, 6, none⟩ (.int .i64 ((rd_T46 l0_1 x14_1).f0.f6))).setCell ⟨gb109, 7, none⟩ (.int .i64 ((rd_T46 l0_1 x14_1).f0.f7))).setCell ⟨gb109, 8, none⟩ (.int .i64 ((rd_T46 l0_1 x14_1).f0.f8))).setCell ⟨gb109, 9, none⟩ (.int .i64 ((rd_T46 l0_1 x14_1).f1))).setCell ⟨gb109, 10, none⟩ (.int .i64 ((rd_T46 l0_1 x14_1).f2))) = w23 at n0_ n1_ n2_ n3_ ⊢
              have HO_5 := n0_; have BK101 := n1_; have BK109 := n2_; have HB := n3_; clear n0_ n1_ n2_ n3_; have n0_ := am (Kd.R_drew HO_5.out); have n1_ := am (blk_drew BK101.out); have n2_ := am (blk_drew BK109.out); have n3_ := am (below_drew1 HB.out); clear HO_5; clear BK101; clear BK109; clear HB; have HO_5 := n0_; have BK101 := n1_; have BK109 := n2_; have HB := n3_; clear n0_ n1_ n2_ n3_
              obtain ⟨Ao25, co25, eo25⟩ := Kd.R_slice HO_5.out
              (first | subst eo25 | (injection eo25 with f1_ f2_ f3_; have f4_ := f1_.symm; have f5_ := f3_.symm; clear f1_ f2_ f3_; subst f4_; subst f5_))
              have p110 : 0 ≤ (((rd_T46 l0_1 x14_1).f1) : Int) := of_decide_eq_true (by assumption)
              have q110 : ((rd_T46 l0_1 x14_1).f1) < (x5_1.length : Int) := of_decide_eq_true (by assumption)
              obtain ⟨ad110, e110, hx110_0⟩ := Kd.at_int (Kd.R_reads' HO_5.out).2.2 ((rd_T46 l0_1 x14_1).f1) p110 q110
              cases e110
              replace p110 := eq_true p110
              replace q110 := eq_true q110
              have p111 : 0 ≤ (((rd_T46 l0_1 x14_1).f2) : Int) := of_decide_eq_true (by assumption)
              have q111 : ((rd_T46 l0_1 x14_1).f2) < (x5_1.length : Int) := of_decide_eq_true (by assumption)
              obtain ⟨ad111, e111, hx111_0⟩ := Kd.at_int (Kd.R_reads' HO_5.out).2.2 ((rd_T46 l0_1 x14_1).f2) p111 q111
              obtain rfl : ad110 = ad111 := (by injection e111)
              replace p111 := eq_true p111
              replace q111 := eq_true q111
              have pj26 : 0 ≤ ((ji16) : Int) := of_decide_eq_true (by assumption)
              have qj26 : ((ji16) : Int) < 9 := of_decide_eq_true (by assumption)
              refine start_ (n := 21) (S := fun w' => w'.cell? ⟨gb109, 0, none⟩ = some (.int .i64 ((rd_T46 l0_1 x14_1).f0.f0)) ∧ w'.cell? ⟨gb109, 1, none⟩ = some (.int .i64 ((rd_T46 l0_1 x14_1).f0.f1)) ∧ w'.cell? ⟨gb109, 2, none⟩ = some (.int .i64 ((rd_T46 l0_1 x14_1).f0.f2)) ∧ w'.cell? ⟨gb109, 3, none⟩ = some (.int .i64 ((rd_T46 l0_1 x14_1).f0.f3)) ∧ w'.cell? ⟨gb109, 4, none⟩ = some (.int .i64 ((rd_T46 l0_1 x14_1).f0.f4)) ∧ w'.cell? ⟨gb109, 5, none⟩ = some (.int .i64 ((rd_T46 l0_1 x14_1).f0.f5)) ∧ w'.cell? ⟨gb109, 6, none⟩ = some (.int .i64 ((rd_T46 l0_1 x14_1).f0.f6)) ∧ w'.cell? ⟨gb109, 7, none⟩ = some (.int .i64 ((rd_T46 l0_1 x14_1).f0.f7)) ∧ w'.cell? ⟨gb109, 8, none⟩ = some (.int .i64 ((rd_T46 l0_1 x14_1).f0.f8)) ∧ w'.cell? ⟨gb109, 9, none⟩ = some (.int .i64 ((rd_T46 l0_1 x14_1).f1)) ∧ w'.cell? ⟨gb109, 10, none⟩ = some (.int .i64 ((rd_T46 l0_1 x14_1).f2)) ∧ w'.cell? ⟨gb109, ((ji16) : Int).toNat, none⟩ = some (.int .i64 (rd ([(rd_T46 l0_1 x14_1).f0.f0, (rd_T46 l0_1 x14_1).f0.f1, (rd_T46 l0_1 x14_1).f0.f2, (rd_T46 l0_1 x14_1).f0.f3, (rd_T46 l0_1 x14_1).f0.f4, (rd_T46 l0_1 x14_1).f0.f5, (rd_T46 l0_1 x14_1).f0.f6, (rd_T46 l0_1 x14_1).f0.f7, (rd_T46 l0_1 x14_1).f0.f8] : List Int) (ji16))) ∧ w'.cell? (ad110.add (((rd_T46 l0_1 x14_1).f1)).toNat) = some (.int .i64 (rd x5_1 ((rd_T46 l0_1 x14_1).f1))) ∧ w'.cell? (ad110.add (((rd_T46 l0_1 x14_1).f2)).toNat) = some (.int .i64 (rd x5_1 ((rd_T46 l0_1 x14_1).f2)))) (ds := [18, 19]) q67_0 (by kernel_rfl) rfl rfl ⟨(blk_cell BK109.out 0).trans rfl, (blk_cell BK109.out 1).trans rfl, (blk_cell BK109.out 2).trans rfl, (blk_cell BK109.out 3).trans rfl, (blk_cell BK109.out 4).trans rfl, (blk_cell BK109.out 5).trans rfl, (blk_cell BK109.out 6).trans rfl, (blk_cell BK109.out 7).trans rfl, (blk_cell BK109.out 8).trans rfl, (blk_cell BK109.out 9).trans rfl, (blk_cell BK109.out 10).trans rfl, (arrAt_ [(rd_T46 l0_1 x14_1).f0.f0, (rd_T46 l0_1 x14_1).f0.f1, (rd_T46 l0_1 x14_1).f0.f2, (rd_T46 l0_1 x14_1).f0.f3, (rd_T46 l0_1 x14_1).f0.f4, (rd_T46 l0_1 x14_1).f0.f5, (rd_T46 l0_1 x14_1).f0.f6, (rd_T46 l0_1 x14_1).f0.f7, (rd_T46 l0_1 x14_1).f0.f8] [.int .i64 ((rd_T46 l0_1 x14_1).f1), .int .i64 ((rd_T46 l0_1 x14_1).f2)] BK109.out rfl pj26 qj26 rfl), hx110_0, hx111_0⟩ (fun hHeld => ?_); refine with_tabW spec_l6Lines.tab5 spec_l6Lines.bits5 (fun HT_ HW_ => ?_)
              generalize w23.drew = w24 at HO_5 BK101 BK109 HB hx110_0 hx111_0 hHeld ⊢
              refine pure_ (i := 0) (N := some 18) (v := ?_) (a' := ?_) q67_1 rfl rfl (any_of HT_.out (by kernel_rfl)) (fun _ _ _ h => h) (Or.inl ⟨by rfl, ?_⟩) ?_ ?_; rotate_left
              ·intro w'
               go_simp; with_reducible rfl
              rotate_left
              ·simp only [Act.put, qa67, qb67, qc67, i64_w, i32_w]
               rfl
              refine pure_ (i := 1) (N := some 19) (v := ?_) (a' := ?_) q67_2 rfl rfl (any_of HT_.out (by kernel_rfl)) (fun _ _ _ h => h) (Or.inl ⟨by rfl, ?_⟩) ?_ ?_; rotate_left
              ·intro w'
               go_simp; with_reducible rfl
              rotate_left
              ·simp only [Act.put, qa67, qb67, qc67, i64_w, i32_w]
               rfl
              refine pure_ (i := 2) (N := some 20) (v := ?_) (a' := ?_) q67_3 rfl rfl (any_of HT_.out (by kernel_rfl)) (fun _ _ _ h => h) (Or.inl ⟨by rfl, ?_⟩) ?_ ?_; rotate_left
              ·intro w'
               go_simp; with_reducible rfl
              rotate_left
              ·simp only [Act.put, qa67, qb67, qc67, i64_w, i32_w]
               rfl
              refine pure_ (i := 8) (N := some 26) (v := ?_) (a' := ?_) q67_4 rfl rfl (any_of HT_.out (by kernel_rfl)) (fun _ _ _ h => h) (Or.inl ⟨by rfl, ?_⟩) ?_ ?_; rotate_left
              ·intro w'
               go_simp; with_reducible rfl
              rotate_left
              ·simp only [Act.put, qa67, qb67, qc67, i64_w, i32_w]
               rfl
              refine pure_ (i := 9) (N := some 27) (v := ?_) (a' := ?_) q67_5 rfl rfl (any_of HT_.out (by kernel_rfl)) (fun _ _ _ h => h) (Or.inl ⟨by rfl, ?_⟩) ?_ ?_; rotate_left
              ·intro w'
               go_simp; with_reducible rfl
              rotate_left
              ·simp only [Act.put, qa67, qb67, qc67, i64_w, i32_w]
               rfl
              refine pure_ (i := 15) (N := some 33) (v := ?_) (a' := ?_) q67_6 rfl rfl (any_of HT_.out (by kernel_rfl)) (fun _ _ _ h => h) (Or.inl ⟨by rfl, ?_⟩) ?_ ?_; rotate_left
              ·intro w'
               go_simp; with_reducible rfl
              rotate_left
              ·simp only [Act.put, qa67, qb67, qc67, i64_w, i32_w]
               rfl
              refine take_ (i := 3) (N := some 21) (v := ?_) (a' := ?_) q67_7 rfl rfl (take_ofW HT_.out HW_.out (by kernel_rfl)) (fun _ _ _ h => h) (Or.inl ⟨by rfl, ?_⟩) hHeld ?_ ?_; rotate_left
              ·rintro w' ⟨s0, s1, s2, s3, s4, s5, s6, s7, s8, s9, s10, s11, s12, s13⟩
               go_simp; with_reducible rfl
              rotate_left
              ·simp only [Act.put, qa67, qb67, qc67, i64_w, i32_w]
               rfl
              refine pure_ (i := 4) (N := some 22) (v := ?_) (a' := ?_) q67_8 rfl rfl (any_of HT_.out (by kernel_rfl)) (fun _ _ _ h => h) (Or.inl ⟨by rfl, ?_⟩) ?_ ?_; rotate_left
              ·intro w'
               go_simp; with_reducible rfl
              rotate_left
              ·simp only [Act.put, qa67, qb67, qc67, i64_w, i32_w]
               rfl
              refine take_ (i := 5) (N := some 23) (v := ?_) (a' := ?_) q67_9 rfl rfl (take_ofW HT_.out HW_.out (by kernel_rfl)) (fun _ _ _ h => h) (Or.inl ⟨by rfl, ?_⟩) hHeld ?_ ?_; rotate_left
              ·rintro w' ⟨s0, s1, s2, s3, s4, s5, s6, s7, s8, s9, s10, s11, s12, s13⟩
               go_simp; with_reducible rfl
              rotate_left
              ·simp only [Act.put, qa67, qb67, qc67, i64_w, i32_w]
               rfl
              refine pure_ (i := 6) (N := some 24) (v := ?_) (a' := ?_) q67_10 rfl rfl (any_of HT_.out (by kernel_rfl)) (fun _ _ _ h => h) (Or.inl ⟨by rfl, ?_⟩) ?_ ?_; rotate_left
              ·intro w'
               go_simp; with_reducible rfl
              rotate_left
              ·simp only [Act.put, qa67, qb67, qc67, i64_w, i32_w]
               rfl
              refine pure_ (i := 7) (N := some 25) (v := ?_) (a' := ?_) q67_11 rfl rfl (any_of HT_.out (by kernel_rfl)) (fun _ _ _ h => h) (Or.inl ⟨by rfl, ?_⟩) ?_ ?_; rotate_left
              ·intro w'
               go_simp; with_reducible rfl
              rotate_left
              ·simp only [Act.put, qa67, qb67, qc67, i64_w, i32_w]
               rfl
              refine take_ (i := 10) (N := some 28) (v := ?_) (a' := ?_) q67_12 rfl rfl (take_ofW HT_.out HW_.out (by kernel_rfl)) (fun _ _ _ h => h) (Or.inl ⟨by rfl, ?_⟩) hHeld ?_ ?_; rotate_left
              ·rintro w' ⟨s0, s1, s2, s3, s4, s5, s6, s7, s8, s9, s10, s11, s12, s13⟩
               go_simp; with_reducible rfl
              rotate_left
              ·simp only [Act.put, qa67, qb67, qc67, i64_w, i32_w]
               rfl
              refine pure_ (i := 11) (N := some 29) (v := ?_) (a' := ?_) q67_13 rfl rfl (any_of HT_.out (by kernel_rfl)) (fun _ _ _ h => h) (Or.inl ⟨by rfl, ?_⟩) ?_ ?_; rotate_left
              ·intro w'
               go_simp; with_reducible rfl
              rotate_left
              ·simp only [Act.put, qa67, qb67, qc67, i64_w, i32_w]
               rfl
              refine take_ (i := 12) (N := some 30) (v := ?_) (a' := ?_) q67_14 rfl rfl (take_ofW HT_.out HW_.out (by kernel_rfl)) (fun _ _ _ h => h) (Or.inl ⟨by rfl, ?_⟩) hHeld ?_ ?_; rotate_left
              ·rintro w' ⟨s0, s1, s2, s3, s4, s5, s6, s7, s8, s9, s10, s11, s12, s13⟩
               go_simp; with_reducible rfl
              rotate_left
              ·simp only [Act.put, qa67, qb67, qc67, i64_w, i32_w]
               rfl
              refine pure_ (i := 13) (N := some 31) (v := ?_) (a' := ?_) q67_15 rfl rfl (any_of HT_.out (by kernel_rfl)) (fun _ _ _ h => h) (Or.inl ⟨by rfl, ?_⟩) ?_ ?_; rotate_left
              ·intro w'
               go_simp; with_reducible rfl
              rotate_left
              ·simp only [Act.put, qa67, qb67, qc67, i64_w, i32_w]
               rfl
              refine pure_ (i := 14) (N := some 32) (v := ?_) (a' := ?_) q67_16 rfl rfl (any_of HT_.out (by kernel_rfl)) (fun _ _ _ h => h) (Or.inl ⟨by rfl, ?_⟩) ?_ ?_; rotate_left
              ·intro w'
               go_simp; with_reducible rfl
              rotate_left
              ·simp only [Act.put, qa67, qb67, qc67, i64_w, i32_w]
               rfl
              refine pure_ (i := 16) (N := some 34) (v := ?_) (a' := ?_) q67_17 rfl rfl (any_of HT_.out (by kernel_rfl)) (fun _ _ _ h => h) (Or.inl ⟨by rfl, ?_⟩) ?_ ?_; rotate_left
              ·intro w'
               go_simp; with_reducible rfl
              rotate_left
              ·simp only [Act.put, qa67, qb67, qc67, i64_w, i32_w]
               rfl
              refine take_ (i := 17) (N := some 35) (v := ?_) (a' := ?_) q67_18 rfl rfl (take_ofW HT_.out HW_.out (by kernel_rfl)) (fun _ _ _ h => h) (Or.inl ⟨by rfl, ?_⟩) hHeld ?_ ?_; rotate_left
              ·rintro w' ⟨s0, s1, s2, s3, s4, s5, s6, s7, s8, s9, s10, s11, s12, s13⟩
               go_simp; with_reducible rfl
              rotate_left
              ·simp only [Act.put, qa67, qb67, qc67, i64_w, i32_w]
               rfl
              refine last_ (i := 18) (N := some 36) q67_19 rfl rfl (one_of HT_.out (by kernel_rfl)) (by decide) (fun K hK => ?_)
              refine value_ (w1 := ?_) (v := ?_) (by rfl) rfl ?_ ?_
              rotate_left 2
              ·go_simp
               constructor
               ·rfl
               ·rfl
              refine hK.out _ _ ?_
              clear hK K
              refine norm_ (a' := ?_) ?_ ?_; rotate_left
              ·show Act.put _ (some 36) _ = _
               simp only [Act.put, qa67, qb67, qc67, i64_w, i32_w]
               rfl
              refine last_ (i := 19) (N := some 37) q67_20 rfl rfl (one_of HT_.out (by kernel_rfl)) (by decide) (fun K hK => ?_)
              refine Kd.R_append_step (Kd.int .i64) (w0 := w) w.heap.size (by rfl) (.tmp 18) (.tmp 36) 28 3 (.int .i64 0) 8 rfl Try.underlying28 info3 rfl (by decide) (by omega) (.slice (some ad110) x5_1.length co25) x5_1 (rd ([(rd_T46 l0_1 x14_1).f0.f0, (rd_T46 l0_1 x14_1).f0.f1, (rd_T46 l0_1 x14_1).f0.f2, (rd_T46 l0_1 x14_1).f0.f3, (rd_T46 l0_1 x14_1).f0.f4, (rd_T46 l0_1 x14_1).f0.f5, (rd_T46 l0_1 x14_1).f0.f6, (rd_T46 l0_1 x14_1).f0.f7, (rd_T46 l0_1 x14_1).f0.f8] : List Int) (ji16)) [.int .i64 (rd ([(rd_T46 l0_1 x14_1).f0.f0, (rd_T46 l0_1 x14_1).f0.f1, (rd_T46 l0_1 x14_1).f0.f2, (rd_T46 l0_1 x14_1).f0.f3, (rd_T46 l0_1 x14_1).f0.f4, (rd_T46 l0_1 x14_1).f0.f5, (rd_T46 l0_1 x14_1).f0.f6, (rd_T46 l0_1 x14_1).f0.f7, (rd_T46 l0_1 x14_1).f0.f8] : List Int) (ji16))] (fun _ => True) (fun _ => False) rfl rfl ?aP (fun _ hk => hk.elim) ?aF ?aO ?aB ?aS ?aL ?_
              (case aP => exact rfl)
              (case aB => exact (bB HB.out))
              (case aF => exact (fun _ _ => trivial))
              (case aO => exact (bC HO_5.out))
              (case aS => exact (below_size (bB HB.out)))
              (case aL => have := LMc19.out; omega)
              intro v113 w27 ho hb hg hat
              rw [← Ny112.out] at ho
              have n0_ := am (blk_grown (g := gb101) (o := .cells #[.int .i64 a0_0, .slice (some ad108) l0_1.length c0_1, .slice A0_2 l0_2.length c0_2] 35 (0, 0)) (bA BK101.out) hg (Kd.R_ne HO_5.out BK101.out (by decide))); have n1_ := am (blk_grown (g := gb109) (o := .cells #[.int .i64 ((rd_T46 l0_1 x14_1).f0.f0), .int .i64 ((rd_T46 l0_1 x14_1).f0.f1), .int .i64 ((rd_T46 l0_1 x14_1).f0.f2), .int .i64 ((rd_T46 l0_1 x14_1).f0.f3), .int .i64 ((rd_T46 l0_1 x14_1).f0.f4), .int .i64 ((rd_T46 l0_1 x14_1).f0.f5), .int .i64 ((rd_T46 l0_1 x14_1).f0.f6), .int .i64 ((rd_T46 l0_1 x14_1).f0.f7), .int .i64 ((rd_T46 l0_1 x14_1).f0.f8), .int .i64 ((rd_T46 l0_1 x14_1).f1), .int .i64 ((rd_T46 l0_1 x14_1).f2)] 46 (0, 0)) (bA BK109.out) hg (Kd.R_ne HO_5.out BK109.out (by decide))); have n2_ := am (hb); have n3_ := am (ho); clear BK101; clear BK109; clear HB; clear HO_5; have BK101 := n0_; have BK109 := n1_; have HB := n2_; have HO114 := n3_; clear n0_ n1_ n2_ n3_; clear ho hb hg hat
              refine hK.out _ _ ?_
              clear hK K
              refine norm_ (a' := ?_) ?_ ?_; rotate_left
              ·show Act.put _ (some 37) _ = _
               simp only [Act.put, qa67, qb67, qc67, i64_w, i32_w]
               rfl
              refine pure_ (i := 20) (N := some 5) (v := ?_) (a' := ?_) q67_21 rfl rfl (any_of HT_.out (by kernel_rfl)) (fun _ _ _ h => h) (Or.inl ⟨by rfl, ?_⟩) ?_ ?_; rotate_left
              ·intro w'
               go_simp; with_reducible rfl
              rotate_left
              ·simp only [Act.put, qa67, qb67, qc67, i64_w, i32_w]
               rfl
              refine done_ (done_of HT_.out (by kernel_rfl)) ?_
              try go_wp2
              go_roundg k1
              case measure => have := HK1.out; omega
              case rel => exact ⟨(y112), (wrap64 (x14_1 + 1)), (by first | rfl | (simp; done) | (simp [*]; done)), H', ⟨by have := HK1.out; omega⟩, ⟨by (with_reducible repeat (first | apply Kd.R_alloc | apply Kd.R_drewN | apply Kd.R_drew)); exact HO114.out⟩, ⟨bA BK101.out⟩, ⟨bB HB.out⟩⟩
             ·rw [if_neg c19] at H
              exact absurd H (by simp)
            ·rw [if_neg c18] at H
             exact absurd H (by simp)
           ·rw [if_neg c17] at H
            exact absurd H (by simp)
          ·rw [if_neg c15] at H
           exact absurd H (by simp)
         ·rw [if_neg c14] at H
          exact absurd H (by simp)
        ·rw [if_neg c13] at H
         exact absurd H (by simp)
       ·rw [if_neg c12] at H
        exact absurd H (by simp)
      ·rw [if_neg c11] at H
       exact absurd H (by simp)
     ·rw [if_neg c10] at H
      exact absurd H (by simp)
    ·rw [if_neg c9] at H
     have c9b0 : decide (x14_1 < (l0_1.length : Int)) = false := decide_eq_false c9
     clear c9
     obtain rfl := Option.some.inj H
     go_wp2
     go_ret
     exact ⟨_, by first | rfl | (simp [errW_none, errW_some] <;> rfl) | (simp [*, errW_none, errW_some] <;> rfl), by (with_reducible repeat (first | apply Kd.R_alloc | apply Kd.R_drewN | apply Kd.R_drew)); exact HO_5.out, bB HB.out⟩
 ·rw [if_neg c3] at H
  exact absurd H (by simp)

theorem qa30 {α : Type} (l : List α) (i : Nat) (a : α) : l.toArray.setIfInBounds i a = (l.set i a).toArray := List.setIfInBounds_toArray ..
theorem qb30 {α : Type} (x a : α) (l : List α) : (x :: l).set 0 a = a :: l := rfl
theorem qc30 {α : Type} (x a : α) (l : List α) (n : Nat) : (x :: l).set (n + 1) a = x :: l.set n a := rfl
/-! ### spec_LinesOf: function 30 -/
mutual
def spec_LinesOf.j0 : Nat → List Int → Bool → Int → List (S46) → List Int → Option (List Int × Bool)
 | 0, _, _, _, _, _ => none
 | k + 1, x1, x17, x102000, x102001, x102002 => if x17 = true then (some (([] : List Int), false)) else (spec_LinesOf.l0 k x1 x1 (x1.length : Int) 0 x102000 x102001 x102002)
def spec_LinesOf.l0 : Nat → List Int → List Int → Int → Int → Int → List (S46) → List Int → Option (List Int × Bool)
 | 0, _, _, _, _, _, _, _ => none
 | k + 1, x1, x18, x19, x20, x102000, x102001, x102002 => if x20 < x19 then (if 0 ≤ x20 then (if x20 < (x18.length : Int) then ((spec_IsTrit.f (rd x18 x20)).bind fun t104 => (if t104 = true then (spec_LinesOf.l0 k x1 x18 x19 (wrap64 (x20 + 1)) x102000 x102001 x102002) else (some (([] : List Int), false)))) else (none)) else (none)) else ((spec_l6Lines.f k x102000 x102001 x102002 x1).bind fun t105 => (some (t105, true)))
end
def spec_LinesOf.f (k : Nat) (a0_0 : Int) (l0_1 : List (S46)) (l0_2 : List Int) (l1 : List Int) : Option (List Int × Bool) := (spec_IsCircuit.f k a0_0 l0_1 l0_2).bind fun t102 => (if t102 = true then (spec_LinesOf.j0 k l1 ((l1.length : Int) != a0_0) a0_0 l0_1 l0_2) else (spec_LinesOf.j0 k l1 true a0_0 l0_1 l0_2))
set_option maxHeartbeats 8000000 in
set_option maxRecDepth 100000 in
theorem spec_LinesOf.calls (k : Nat) (a0_0 : Int) (A0_1 : Option Addr) (c0_1 : Nat) (l0_1 : List (S46)) (A0_2 : Option Addr) (c0_2 : Nat) (l0_2 : List Int) (A1 : Option Addr) (c1 : Nat) (l1 : List Int) (r1 : List Int) (r2 : Bool) (w : World) (hr0_1 : Kd.C k46 w A0_1 l0_1.length l0_1) (hc0_1 : l0_1.length ≤ c0_1) (hr0_2 : Kd.C (Kd.int .i64) w A0_2 l0_2.length l0_2) (hc0_2 : l0_2.length ≤ c0_2) (hr1 : Kd.C (Kd.int .i64) w A1 l1.length l1) (hc1 : l1.length ≤ c1) (h : spec_LinesOf.f k a0_0 l0_1 l0_2 l1 = some (r1, r2)) :
  Calls Try.prog 30 #[.agg #[.int .i64 a0_0, .slice A0_1 l0_1.length c0_1, .slice A0_2 l0_2.length c0_2], .slice A1 l1.length c1] w fun e w' => ∃ v0_ : Value, e = .returned (.tuple #[v0_, .bool r2]) ∧ Kd.R (Kd.int .i64) 3 w' w.heap.size (fun _ => True) v0_ r1 ∧ Below w.heap.size w w' := by
 have hu35 := Try.underlying35; have HR0_1 := am hr0_1; have HC0_1 := am hc0_1; clear hr0_1 hc0_1; have HR0_2 := am hr0_2; have HC0_2 := am hc0_2; clear hr0_2 hc0_2; have HR1 := am hr1; have HC1 := am hc1; clear hr1 hc1; have HB := am (Below.refl w.heap.size w)
 have H : ((spec_IsCircuit.f k a0_0 l0_1 l0_2).bind fun t102 => (if t102 = true then (spec_LinesOf.j0 k l1 ((l1.length : Int) != a0_0) a0_0 l0_1 l0_2) else (spec_LinesOf.j0 k l1 true a0_0 l0_1 l0_2))) = some (r1, r2) := h
 clear h; have HC3 := am H; clear H
 go_enter Try.func30, Try.ntmps30
 go_upto_region 1 with (first | ((with_reducible refine gate_dst (N := 2) rfl ?_); (try (refine gate_guard (by rfl) ?_; dsimp only)); refine box_event ?hg (N := 2) ?hd (cs := #[.int .i64 a0_0, .slice A0_1 l0_1.length c0_1, .slice A0_2 l0_2.length c0_2]) (t := 35) ?hr ?_; (case hd => rfl); (case hg => rfl); (case hr => first | (go_simp; done) | (go_simp; rfl)); intro gb101 hg w4 hbox hb; have n0_ := am (below_step (bB HB.out) hb); have n1_ := am (hbox); have n2_ := am ((by rw [hg]; exact (below_size (bB HB.out)) : w.heap.size ≤ gb101)); have n3_ := am ((by rw [hg]; exact (below_size (bB HB.out)) : w.heap.size ≤ gb101)); clear HB; have HB := n0_; have BK101 := n1_; have GW101 := n2_; have GE101 := n3_; clear n0_ n1_ n2_ n3_; clear hb hbox hg))
 (try simp only [Act.put, qa30, qb30, qc30])
 go_cut [17] (fun v17 wc => ∃ (kq : Nat) (x17_2 : Bool), v17 = .bool x17_2 ∧ Aside0 (spec_LinesOf.j0 kq l1 x17_2 a0_0 l0_1 l0_2 = some (r1, r2)) ∧ Aside0 (kq ≤ k) ∧ Aside0 (wc.heap[gb101]? = some (.cells #[.int .i64 a0_0, (.slice A0_1 l0_1.length c0_1), (.slice A0_2 l0_2.length c0_2)] 35 (0, 0))) ∧ Aside0 (Below w.heap.size w wc))
 case first =>
  have H := HC3.out; clear HC3
  replace H := Option.bind_eq_some_iff.mp H
  obtain ⟨t102, A50, H⟩ := H
  replace H : (if t102 = true then (spec_LinesOf.j0 k l1 ((l1.length : Int) != a0_0) a0_0 l0_1 l0_2) else (spec_LinesOf.j0 k l1 true a0_0 l0_1 l0_2)) = some (r1, r2) := H
  have A5 := am A50; clear A50
  by_cases c6 : t102 = true
  ·subst c6
   have H1 : (spec_LinesOf.j0 k l1 ((l1.length : Int) != a0_0) a0_0 l0_1 l0_2) = some (r1, r2) := by rw [if_pos rfl] at H; exact H
   clear H; have H := H1; clear H1
   have H' := am H
   clear H
   have hcz7_0 : w4.cell? ⟨gb101, 0, none⟩ = some (.int .i64 a0_0) := (blk_cell BK101.out 0).trans rfl
   have hcz7_1 : w4.cell? ⟨gb101, 1, none⟩ = some (.slice A0_1 l0_1.length c0_1) := (blk_cell BK101.out 1).trans rfl
   have hcz7_2 : w4.cell? ⟨gb101, 2, none⟩ = some (.slice A0_2 l0_2.length c0_2) := (blk_cell BK101.out 2).trans rfl
   have hfz7_0 := blk_frozen BK101.out 0; have hfz7_1 := blk_frozen BK101.out 1; have hfz7_2 := blk_frozen BK101.out 2
   go_wp2_with (first | ((with_reducible refine gate_callee (f := 18) rfl ?_); refine goesL_ (some 9) rfl rfl Try.func18 (by kernel_rfl) rfl #[.agg #[.int .i64 a0_0, .slice A0_1 l0_1.length c0_1, .slice A0_2 l0_2.length c0_2]] rfl bE ?_; (with_reducible refine (spec_IsCircuit.calls k a0_0 _ _ l0_1 _ _ l0_2 true _ ?side1 ?side2 ?side3 ?side4 A5.out).mono ?_); (case side1 => exact bD ((Kd.C_below HR0_1.out HB.out))); (case side2 => exact HC0_1.out); (case side3 => exact bD ((Kd.C_below HR0_2.out HB.out))); (case side4 => exact HC0_2.out); rintro e w8 ⟨rfl, hb⟩; refine ⟨_, rfl, ?_⟩; have n0_ := am (blk_below (bA BK101.out) hb); have n1_ := am (below_step (bB HB.out) hb); clear BK101; clear HB; have BK101 := n0_; have HB := n1_; clear n0_ n1_; (try clear hb); (try clear hb2); (try clear hk); (try clear hi); have hcz9_0 : w8.cell? ⟨gb101, 0, none⟩ = some (.int .i64 a0_0) := (blk_cell BK101.out 0).trans rfl; have hcz9_1 : w8.cell? ⟨gb101, 1, none⟩ = some (.slice A0_1 l0_1.length c0_1) := (blk_cell BK101.out 1).trans rfl; have hcz9_2 : w8.cell? ⟨gb101, 2, none⟩ = some (.slice A0_2 l0_2.length c0_2) := (blk_cell BK101.out 2).trans rfl; have hfz9_0 := blk_frozen BK101.out 0; have hfz9_1 := blk_frozen BK101.out 1; have hfz9_2 := blk_frozen BK101.out 2))
   go_meet
   case rel => exact ⟨_, (((l1.length : Int) != a0_0)), (by first | rfl | (simp; done) | (simp [*]; done)), H', ⟨by first | omega | exact Nat.le_refl _⟩, ⟨bA BK101.out⟩, ⟨bB HB.out⟩⟩
  ·replace c6 := Bool.eq_false_iff.mpr c6
   subst c6
   have H1 : (spec_LinesOf.j0 k l1 true a0_0 l0_1 l0_2) = some (r1, r2) := by rw [if_neg (show ¬ (false = true) by decide)] at H; exact H
   clear H; have H := H1; clear H1
   have H' := am H
   clear H
   have hcz10_0 : w4.cell? ⟨gb101, 0, none⟩ = some (.int .i64 a0_0) := (blk_cell BK101.out 0).trans rfl
   have hcz10_1 : w4.cell? ⟨gb101, 1, none⟩ = some (.slice A0_1 l0_1.length c0_1) := (blk_cell BK101.out 1).trans rfl
   have hcz10_2 : w4.cell? ⟨gb101, 2, none⟩ = some (.slice A0_2 l0_2.length c0_2) := (blk_cell BK101.out 2).trans rfl
   have hfz10_0 := blk_frozen BK101.out 0; have hfz10_1 := blk_frozen BK101.out 1; have hfz10_2 := blk_frozen BK101.out 2
   go_wp2_with (first | ((with_reducible refine gate_callee (f := 18) rfl ?_); refine goesL_ (some 9) rfl rfl Try.func18 (by kernel_rfl) rfl #[.agg #[.int .i64 a0_0, .slice A0_1 l0_1.length c0_1, .slice A0_2 l0_2.length c0_2]] rfl bE ?_; (with_reducible refine (spec_IsCircuit.calls k a0_0 _ _ l0_1 _ _ l0_2 false _ ?side1 ?side2 ?side3 ?side4 A5.out).mono ?_); (case side1 => exact bD ((Kd.C_below HR0_1.out HB.out))); (case side2 => exact HC0_1.out); (case side3 => exact bD ((Kd.C_below HR0_2.out HB.out))); (case side4 => exact HC0_2.out); rintro e w11 ⟨rfl, hb⟩; refine ⟨_, rfl, ?_⟩; have n0_ := am (blk_below (bA BK101.out) hb); have n1_ := am (below_step (bB HB.out) hb); clear BK101; clear HB; have BK101 := n0_; have HB := n1_; clear n0_ n1_; (try clear hb); (try clear hb2); (try clear hk); (try clear hi)))
   go_meet
   case rel => exact ⟨_, (true), (by first | rfl | (simp; done) | (simp [*]; done)), H', ⟨by first | omega | exact Nat.le_refl _⟩, ⟨bA BK101.out⟩, ⟨bB HB.out⟩⟩
 case rest =>
  clear HC3
  try clear c1
  try clear p2
  try clear c3
  try clear c6
  try clear hcz10_0
  try clear hcz10_1
  try clear hcz10_2
  try clear hcz7_0
  try clear hcz7_1
  try clear hcz7_2
  try clear hcz9_0
  try clear hcz9_1
  try clear hcz9_2
  try clear hfz10_0
  try clear hfz10_1
  try clear hfz10_2
  try clear hfz7_0
  try clear hfz7_1
  try clear hfz7_2
  try clear hfz9_0
  try clear hfz9_1
  try clear hfz9_2
  obtain ⟨kq, x17_2, rfl, HA, HJ2, BK101, HB⟩ := hcut
  cases kq with
  | zero => exact absurd HA.out (by simp [spec_LinesOf.j0])
  | succ kj2 =>
   have H := HA.out; clear HA
   simp only [spec_LinesOf.j0] at H
   by_cases c12 : x17_2 = true
   ·subst c12
    have H1 : (some (([] : List Int), false)) = some (r1, r2) := by rw [if_pos rfl] at H; exact H
    clear H; have H := H1; clear H1
    simp only [Option.some.injEq, Prod.mk.injEq] at H
    obtain ⟨rfl, rfl⟩ := H
    go_wp2
    go_ret2
    exact ⟨_, by first | rfl | (simp [errW_none, errW_some] <;> rfl) | (simp [*, errW_none, errW_some] <;> rfl), by first | exact Kd.R_nil _ _ _ _ _ | exact Kd.N_nil _ _ _ _ _ | exact Kd.V_nil _ _ _ _ _ | exact Kd.Q_nil _ _ _ _ _ | exact Kd.S_nil _ _ _ _ _, bB HB.out⟩
   ·replace c12 := Bool.eq_false_iff.mpr c12
    subst c12
    have H1 : (spec_LinesOf.l0 kj2 l1 l1 (l1.length : Int) 0 a0_0 l0_1 l0_2) = some (r1, r2) := by rw [if_neg (show ¬ (false = true) by decide)] at H; exact H
    clear H; have H := H1; clear H1
    have H' := am H
    clear H
    go_wp2
    go_loopg [20] kj2 (fun kq v20 w' => ∃ (x20_2 : Int), v20 = .int .i64 x20_2 ∧ Aside0 (spec_LinesOf.l0 kq l1 l1 (l1.length : Int) x20_2 a0_0 l0_1 l0_2 = some (r1, r2)) ∧ Aside0 (kq ≤ kj2) ∧ Aside0 (w'.heap[gb101]? = some (.cells #[.int .i64 a0_0, (.slice A0_1 l0_1.length c0_1), (.slice A0_2 l0_2.length c0_2)] 35 (0, 0))) ∧ Aside0 (Below w.heap.size w w'))
    case atStart => exact ⟨(0), (by first | rfl | (simp; done) | (simp [*]; done)), H', ⟨Nat.le_refl _⟩, ⟨bA BK101.out⟩, ⟨bB HB.out⟩⟩
    case round =>
     clear H'
     try clear c1
     try clear p2
     try clear c3
     try clear c6
     try clear c12
     try clear hcz10_0
     try clear hcz10_1
     try clear hcz10_2
     try clear hcz7_0
     try clear hcz7_1
     try clear hcz7_2
     try clear hcz9_0
     try clear hcz9_1
     try clear hcz9_2
     try clear hfz10_0
     try clear hfz10_1
     try clear hfz10_2
     try clear hfz7_0
     try clear hfz7_1
     try clear hfz7_2
     try clear hfz9_0
     try clear hfz9_1
     try clear hfz9_2
     try clear p2
     obtain ⟨x20_2, rfl, HA, HK2, BK101, HB⟩ := hrel
     cases gk with
     | zero => exact absurd HA.out (by simp [spec_LinesOf.l0])
     | succ k2 =>
      have H := HA.out; clear HA
      simp only [spec_LinesOf.l0] at H
      by_cases c13 : x20_2 < (l1.length : Int)
      ·rw [if_pos c13] at H
       have c13b0 : decide (x20_2 < (l1.length : Int)) = true := decide_eq_true c13
       clear c13
       by_cases c14 : 0 ≤ x20_2
       ·rw [if_pos c14] at H
        have c14b0 : decide (0 ≤ x20_2) = true := decide_eq_true c14
        clear c14
        by_cases c15 : x20_2 < (l1.length : Int)
        ·rw [if_pos c15] at H
         have c15b0 : decide (x20_2 < (l1.length : Int)) = true := decide_eq_true c15
         clear c15
         replace H := Option.bind_eq_some_iff.mp H
         obtain ⟨t104, A160, H⟩ := H
         replace H : (if t104 = true then (spec_LinesOf.l0 k2 l1 l1 (l1.length : Int) (wrap64 (x20_2 + 1)) a0_0 l0_1 l0_2) else (some (([] : List Int), false))) = some (r1, r2) := H
         have A16 := am A160; clear A160
         by_cases c17 : t104 = true
         ·subst c17
          have H1 : (spec_LinesOf.l0 k2 l1 l1 (l1.length : Int) (wrap64 (x20_2 + 1)) a0_0 l0_1 l0_2) = some (r1, r2) := by rw [if_pos rfl] at H; exact H
          clear H; have H := H1; clear H1
          have H' := am H
          clear H
          have p103 : 0 ≤ (x20_2 : Int) := of_decide_eq_true (by assumption)
          have q103 : x20_2 < (l1.length : Int) := of_decide_eq_true (by assumption)
          obtain ⟨ad103, e103, hx103_0⟩ := Kd.at_int HR1.out x20_2 p103 q103
          cases e103
          replace hx103_0 := (HB.out.cell (World.block_lt_of_cell? w _ hx103_0)).trans hx103_0
          replace p103 := eq_true p103
          replace q103 := eq_true q103
          go_wp2_with (first | ((with_reducible refine gate_callee (f := 49) rfl ?_); refine goesL_ (some 25) rfl rfl Try.func49 (by kernel_rfl) rfl #[.int .i64 (rd l1 x20_2)] rfl bE ?_; (with_reducible refine (spec_IsTrit.calls (rd l1 x20_2) true _ A16.out).mono ?_); rintro e w' ⟨rfl, ⟨nd, rfl⟩⟩; refine ⟨_, rfl, ?_⟩))
          go_roundg k2
          case measure => have := HJ2.out; have := HK2.out; omega
          case rel => exact ⟨(wrap64 (x20_2 + 1)), (by first | rfl | (simp; done) | (simp [*]; done)), H', ⟨by have := HJ2.out; have := HK2.out; omega⟩, ⟨bA BK101.out⟩, ⟨bB HB.out⟩⟩
         ·replace c17 := Bool.eq_false_iff.mpr c17
          subst c17
          have H1 : (some (([] : List Int), false)) = some (r1, r2) := by rw [if_neg (show ¬ (false = true) by decide)] at H; exact H
          clear H; have H := H1; clear H1
          simp only [Option.some.injEq, Prod.mk.injEq] at H
          obtain ⟨rfl, rfl⟩ := H
          have p103 : 0 ≤ (x20_2 : Int) := of_decide_eq_true (by assumption)
          have q103 : x20_2 < (l1.length : Int) := of_decide_eq_true (by assumption)
          obtain ⟨ad103, e103, hx103_0⟩ := Kd.at_int HR1.out x20_2 p103 q103
          cases e103
          replace hx103_0 := (HB.out.cell (World.block_lt_of_cell? w _ hx103_0)).trans hx103_0
          replace p103 := eq_true p103
          replace q103 := eq_true q103
          go_wp2_with (first | ((with_reducible refine gate_callee (f := 49) rfl ?_); refine goesL_ (some 25) rfl rfl Try.func49 (by kernel_rfl) rfl #[.int .i64 (rd l1 x20_2)] rfl bE ?_; (with_reducible refine (spec_IsTrit.calls (rd l1 x20_2) false _ A16.out).mono ?_); rintro e w' ⟨rfl, ⟨nd, rfl⟩⟩; refine ⟨_, rfl, ?_⟩))
          go_ret2
          exact ⟨_, by first | rfl | (simp [errW_none, errW_some] <;> rfl) | (simp [*, errW_none, errW_some] <;> rfl), by first | exact Kd.R_nil _ _ _ _ _ | exact Kd.N_nil _ _ _ _ _ | exact Kd.V_nil _ _ _ _ _ | exact Kd.Q_nil _ _ _ _ _ | exact Kd.S_nil _ _ _ _ _, bB HB.out⟩
        ·rw [if_neg c15] at H
         exact absurd H (by simp)
       ·rw [if_neg c14] at H
        exact absurd H (by simp)
      ·rw [if_neg c13] at H
       have c13b0 : decide (x20_2 < (l1.length : Int)) = false := decide_eq_false c13
       clear c13
       replace H := Option.bind_eq_some_iff.mp H
       obtain ⟨t105, A180, H⟩ := H
       replace H : (some (t105, true)) = some (r1, r2) := H
       have A18 := am A180; clear A180
       simp only [Option.some.injEq, Prod.mk.injEq] at H
       obtain ⟨rfl, rfl⟩ := H
       have hcz19_0 : wr.cell? ⟨gb101, 0, none⟩ = some (.int .i64 a0_0) := (blk_cell BK101.out 0).trans rfl
       have hcz19_1 : wr.cell? ⟨gb101, 1, none⟩ = some (.slice A0_1 l0_1.length c0_1) := (blk_cell BK101.out 1).trans rfl
       have hcz19_2 : wr.cell? ⟨gb101, 2, none⟩ = some (.slice A0_2 l0_2.length c0_2) := (blk_cell BK101.out 2).trans rfl
       have hfz19_0 := blk_frozen BK101.out 0; have hfz19_1 := blk_frozen BK101.out 1; have hfz19_2 := blk_frozen BK101.out 2
       go_wp2_with (first | ((with_reducible refine gate_callee (f := 67) rfl ?_); refine goesL_ (some 30) rfl rfl Try.func67 (by kernel_rfl) rfl #[.agg #[.int .i64 a0_0, .slice A0_1 l0_1.length c0_1, .slice A0_2 l0_2.length c0_2], .slice A1 l1.length c1] rfl bE ?_; (with_reducible refine (spec_l6Lines.calls k2 a0_0 _ _ l0_1 _ _ l0_2 _ _ l1 t105 _ ?side1 ?side2 ?side3 ?side4 ?side5 ?side6 A18.out).mono ?_); (case side1 => exact bD ((Kd.C_below HR0_1.out HB.out))); (case side2 => exact HC0_1.out); (case side3 => exact bD ((Kd.C_below HR0_2.out HB.out))); (case side4 => exact HC0_2.out); (case side5 => exact bD ((Kd.C_below HR1.out HB.out))); (case side6 => exact HC1.out); rintro e w20 ⟨v106, rfl, ho0, hb⟩; refine ⟨_, rfl, ?_⟩; have n0_ := am (Kd.R_lower ho0 (below_size (bB HB.out))); have n1_ := am (blk_below (bA BK101.out) hb); have n2_ := am (below_step (bB HB.out) hb); clear BK101; clear HB; have HO107 := n0_; have BK101 := n1_; have HB := n2_; clear n0_ n1_ n2_; (try clear hb); (try clear hb2); (try clear hk); (try clear hi); (try clear ho0)))
       go_ret2
       exact ⟨_, by first | rfl | (simp [errW_none, errW_some] <;> rfl) | (simp [*, errW_none, errW_some] <;> rfl), by (with_reducible repeat (first | apply Kd.R_alloc | apply Kd.R_drewN | apply Kd.R_drew)); exact HO107.out, bB HB.out⟩

/-! ### laws_markIntS: function 34 -/

end Go.Proofs.Ytaopbkbjfmfcdaa.P
