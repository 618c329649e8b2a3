/- What functions of the program come to, each with the proof that it does, laid by a program of this session out of the translation; no condition is set on any claim. -/
import Derived.Test.YtffhddibgfaopaaPSa0
import Derived.Test.YtffhddibgfaopaaPSa1
import Derived.Test.YtffhddibgfaopaaPSa2
import Derived.Test.YtffhddibgfaopaaPSa3
import Derived.Test.YtffhddibgfaopaaPSa5
import Derived.Test.YtffhddibgfaopaaPSa6
namespace Go.Proofs.Ytffhddibgfaopaa.P
open Go.RowKit Go.Proofs.YtffhddibgfaopaaW.PrintWords Go.Proofs.YtffhddibgfaopaaW.PrintLast Go.Proofs.YtffhddibgfaopaaW.PrintMore
attribute [local go_sem] max2_int min2_int max_two min_two max_three min_three max_four min_four   -- for this text's walks alone
set_option linter.unusedVariables false
set_option linter.unusedSimpArgs false


theorem qa3 {α : Type} (l : List α) (i : Nat) (a : α) : l.toArray.setIfInBounds i a = (l.set i a).toArray := List.setIfInBounds_toArray ..
theorem qb3 {α : Type} (x a : α) (l : List α) : (x :: l).set 0 a = a :: l := rfl
theorem qc3 {α : Type} (x a : α) (l : List α) (n : Nat) : (x :: l).set (n + 1) a = x :: l.set n a := rfl
abbrev q3_0 : Array Bool := #[false, false, false, false, false, false, false, false, false, false, false]
abbrev q3_1 : Array Bool := #[true, false, false, false, false, false, false, false, false, false, false]
abbrev q3_2 : Array Bool := #[true, false, true, false, false, false, false, false, false, false, false]
abbrev q3_3 : Array Bool := #[true, true, true, true, true, true, true, true, true, false, false]
abbrev q3_4 : Array Bool := #[true, true, true, false, false, false, false, false, false, false, false]
abbrev q3_5 : Array Bool := #[true, false, true, false, false, false, false, false, true, false, false]
abbrev q3_6 : Array Bool := #[true, true, true, true, false, false, false, false, false, false, false]
abbrev q3_7 : Array Bool := #[true, true, true, false, false, false, false, false, true, false, false]
abbrev q3_8 : Array Bool := #[true, true, true, true, true, false, false, false, false, false, false]
abbrev q3_9 : Array Bool := #[true, true, true, true, false, false, false, false, true, false, false]
abbrev q3_10 : Array Bool := #[true, true, true, true, true, true, false, false, false, false, false]
abbrev q3_11 : Array Bool := #[true, true, true, true, true, true, true, false, false, false, false]
abbrev q3_12 : Array Bool := #[true, true, true, true, true, true, true, true, false, false, false]
abbrev q3_13 : Array Bool := #[true, true, true, true, true, false, false, false, true, false, false]
abbrev q3_14 : Array Bool := #[true, true, true, true, true, true, false, false, true, false, false]
abbrev q3_15 : Array Bool := #[true, true, true, true, true, true, true, false, true, false, false]
abbrev q3_16 : Array Bool := #[true, true, true, true, true, true, true, true, true, true, false]
abbrev q3_17 : Array Bool := #[true, true, true, true, true, true, true, true, true, true, true]
/-! ### laws_FnExactDivFloats: function 3 -/
mutual
def laws_FnExactDivFloats.j0 : Nat → Bool → Bool → Bool → List Int → Int → List Int → Int → List Int → Int → List Int → Int → List Int → Int → List Int → Int → Option (Bool)
 | 0, _, _, _, _, _, _, _, _, _, _, _, _, _, _, _ => none
 | k + 1, x7, x11, x53, x102000, x102001, x103000, x103001, x119000, x119001, x124000, x124001, x129000, x129001, x135000, x135001 => if x53 = true then (some false) else ((laws_toFloating.f k x102000 x102001).bind fun bt136 => ((laws_eqFloating.f k x124000 x124001 bt136.1 bt136.2).bind fun t140 => (if t140 = true then ((laws_toFloating.f k x103000 x103001).bind fun bt141 => ((laws_eqFloating.f k x129000 x129001 bt141.1 bt141.2).bind fun t145 => (if t145 = true then ((laws_markFloating.f k x124000 x124001 1).bind fun bt146 => ((laws_markFloating.f k x129000 x129001 bt146.1).bind fun bt148 => (if bt148.1 < 0 then (laws_FnExactDivFloats.j1 k x7 true x102000 x102001 x103000 x103001 x119000 x119001 x135000 x135001) else ((laws_eqFloating.f k x135000 x135001 x119000 x119001).bind fun t150 => (if t150 = true then (laws_FnExactDivFloats.j1 k x7 (x11 != x7) x102000 x102001 x103000 x103001 x119000 x119001 x135000 x135001) else (laws_FnExactDivFloats.j1 k x7 true x102000 x102001 x103000 x103001 x119000 x119001 x135000 x135001)))))) else (some false)))) else (some false))))
def laws_FnExactDivFloats.j1 : Nat → Bool → Bool → List Int → Int → List Int → Int → List Int → Int → List Int → Int → Option (Bool)
 | 0, _, _, _, _, _, _, _, _, _, _ => none
 | k + 1, x7, x82, x102000, x102001, x103000, x103001, x119000, x119001, x135000, x135001 => if x82 = true then (some false) else ((laws_markFloating.f k x135000 x135001 1).bind fun bt151 => ((laws_heldFloating.f k bt151.2 x135001 1).bind fun t153 => (if t153 < 0 then (some false) else (if t153 = bt151.1 then ((laws_toFloating.f k x102000 x102001).bind fun bt154 => ((laws_toFloating.f k x103000 x103001).bind fun bt158 => ((impl_DivFloats.f k bt154.1 bt154.2 bt158.1 bt158.2).bind fun bt162 => ((laws_eqFloating.f k bt162.1 bt162.2.1 x119000 x119001).bind fun t168 => (if t168 = true then (laws_FnExactDivFloats.j2 k bt151.1 (bt162.2.2 != x7) bt151.2 x135001) else (laws_FnExactDivFloats.j2 k bt151.1 true bt151.2 x135001)))))) else (some false)))))
def laws_FnExactDivFloats.j2 : Nat → Int → Bool → List Int → Int → Option (Bool)
 | 0, _, _, _, _ => none
 | k + 1, x13, x110, x135000, x135001 => if x110 = true then (some false) else ((laws_heldFloating.f k x135000 x135001 1).bind fun t169 => (if t169 < 0 then (some false) else (if t169 = x13 then (some true) else (some false))))
end
def laws_FnExactDivFloats.f (k : Nat) (l0_0 : List Int) (a0_1 : Int) (l1_0 : List Int) (a1_1 : Int) : Option (Bool) := (laws_szFloating.f l0_0 a0_1 1048576).bind fun t103 => (if t103 < 0 then (some true) else ((laws_szFloating.f l1_0 a1_1 t103).bind fun t104 => (if t104 < 0 then (some true) else ((laws_toFloating.f k l0_0 a0_1).bind fun bt105 => ((laws_toFloating.f k l1_0 a1_1).bind fun bt109 => ((spec_DivFloats.f k bt105.1 bt105.2 bt109.1 bt109.2).bind fun bt113 => ((laws_toFloating.f k l0_0 a0_1).bind fun bt119 => ((laws_toFloating.f k l1_0 a1_1).bind fun bt124 => ((impl_DivFloats.f k bt119.1 bt119.2 bt124.1 bt124.2).bind fun bt129 => ((laws_eqFloating.f k bt129.1 bt129.2.1 bt113.1 bt113.2.1).bind fun t135 => (if t135 = true then (laws_FnExactDivFloats.j0 k bt113.2.2 bt129.2.2 (bt129.2.2 != bt113.2.2) l0_0 a0_1 l1_0 a1_1 bt113.1 bt113.2.1 bt119.1 bt119.2 bt124.1 bt124.2 bt129.1 bt129.2.1) else (laws_FnExactDivFloats.j0 k bt113.2.2 bt129.2.2 true l0_0 a0_1 l1_0 a1_1 bt113.1 bt113.2.1 bt119.1 bt119.2 bt124.1 bt124.2 bt129.1 bt129.2.1))))))))))))
def laws_FnExactDivFloats.T8 : Bool × List (List Nat × List Nat) := (true, [([], []), ([0], [0]), ([], []), ([2, 1], [2]), ([1, 3, 3], [1, 3]), ([4], [4]), ([5], [5]), ([5], [5]), ([], []), ([8, 6, 4, 0, 1, 2, 3, 4, 5, 6, 8], [6, 8]), ([7, 9, 0, 1, 2, 3, 4, 5, 6, 7, 8, 9], [7])])
def laws_FnExactDivFloats.B8 : List Nat := [0, 1, 0, 7, 15, 31, 63, 63, 0, 383, 1023]
theorem laws_FnExactDivFloats.tab8 : rtab .any (opsOf Try.f3 8) = laws_FnExactDivFloats.T8 := by kernel_rfl
theorem laws_FnExactDivFloats.bits8 : waitsOk laws_FnExactDivFloats.T8.2 laws_FnExactDivFloats.B8 = true := by kernel_rfl
def laws_FnExactDivFloats.T31 : Bool × List (List Nat × List Nat) := (true, [([], []), ([0], [0]), ([], []), ([2, 1], [2]), ([1, 3, 3], [1, 3]), ([4], [4]), ([5], [5]), ([5], [5]), ([], []), ([8, 6, 4, 0, 1, 2, 3, 4, 5, 6, 8], [6, 8]), ([7, 9, 0, 1, 2, 3, 4, 5, 6, 7, 8, 9], [7])])
def laws_FnExactDivFloats.B31 : List Nat := [0, 1, 0, 7, 15, 31, 63, 63, 0, 383, 1023]
theorem laws_FnExactDivFloats.tab31 : rtab .any (opsOf Try.f3 31) = laws_FnExactDivFloats.T31 := by kernel_rfl
theorem laws_FnExactDivFloats.bits31 : waitsOk laws_FnExactDivFloats.T31.2 laws_FnExactDivFloats.B31 = true := by kernel_rfl
set_option maxHeartbeats 8000000 in
set_option maxRecDepth 100000 in
theorem laws_FnExactDivFloats.calls (k : Nat) (A0_0 : Option Addr) (c0_0 : Nat) (l0_0 : List Int) (a0_1 : Int) (A1_0 : Option Addr) (c1_0 : Nat) (l1_0 : List Int) (a1_1 : Int) (r : Bool) (w : World) (hr0_0 : Kd.C (Kd.int .i64) w A0_0 l0_0.length l0_0) (hc0_0 : l0_0.length ≤ c0_0) (hr1_0 : Kd.C (Kd.int .i64) w A1_0 l1_0.length l1_0) (hc1_0 : l1_0.length ≤ c1_0) (h : laws_FnExactDivFloats.f k l0_0 a0_1 l1_0 a1_1 = some r) (hT : r = true) :
  Calls Try.prog 3 #[.agg #[.slice A0_0 l0_0.length c0_0, .int .i64 a0_1], .agg #[.slice A1_0 l1_0.length c1_0, .int .i64 a1_1]] w fun e w' => e = .returned (.bool r) ∧ Below w.heap.size w w' := by
 have hu24 := Try.underlying24; have hu26 := Try.underlying26; have HR0_0 := am hr0_0; have HC0_0 := am hc0_0; clear hr0_0 hc0_0; have HR1_0 := am hr1_0; have HC1_0 := am hc1_0; clear hr1_0 hc1_0; have HB := am (Below.refl w.heap.size w)
 have H : ((laws_szFloating.f l0_0 a0_1 1048576).bind fun t103 => (if t103 < 0 then (some true) else ((laws_szFloating.f l1_0 a1_1 t103).bind fun t104 => (if t104 < 0 then (some true) else ((laws_toFloating.f k l0_0 a0_1).bind fun bt105 => ((laws_toFloating.f k l1_0 a1_1).bind fun bt109 => ((spec_DivFloats.f k bt105.1 bt105.2 bt109.1 bt109.2).bind fun bt113 => ((laws_toFloating.f k l0_0 a0_1).bind fun bt119 => ((laws_toFloating.f k l1_0 a1_1).bind fun bt124 => ((impl_DivFloats.f k bt119.1 bt119.2 bt124.1 bt124.2).bind fun bt129 => ((laws_eqFloating.f k bt129.1 bt129.2.1 bt113.1 bt113.2.1).bind fun t135 => (if t135 = true then (laws_FnExactDivFloats.j0 k bt113.2.2 bt129.2.2 (bt129.2.2 != bt113.2.2) l0_0 a0_1 l1_0 a1_1 bt113.1 bt113.2.1 bt119.1 bt119.2 bt124.1 bt124.2 bt129.1 bt129.2.1) else (laws_FnExactDivFloats.j0 k bt113.2.2 bt129.2.2 true l0_0 a0_1 l1_0 a1_1 bt113.1 bt113.2.1 bt119.1 bt119.2 bt124.1 bt124.2 bt129.1 bt129.2.1))))))))))))) = some r := h
 clear h; have HT := am hT; clear hT
 replace H := Option.bind_eq_some_iff.mp H
 obtain ⟨t103, A30, H⟩ := H
 replace H : (if t103 < 0 then (some true) else ((laws_szFloating.f l1_0 a1_1 t103).bind fun t104 => (if t104 < 0 then (some true) else ((laws_toFloating.f k l0_0 a0_1).bind fun bt105 => ((laws_toFloating.f k l1_0 a1_1).bind fun bt109 => ((spec_DivFloats.f k bt105.1 bt105.2 bt109.1 bt109.2).bind fun bt113 => ((laws_toFloating.f k l0_0 a0_1).bind fun bt119 => ((laws_toFloating.f k l1_0 a1_1).bind fun bt124 => ((impl_DivFloats.f k bt119.1 bt119.2 bt124.1 bt124.2).bind fun bt129 => ((laws_eqFloating.f k bt129.1 bt129.2.1 bt113.1 bt113.2.1).bind fun t135 => (if t135 = true then (laws_FnExactDivFloats.j0 k bt113.2.2 bt129.2.2 (bt129.2.2 != bt113.2.2) l0_0 a0_1 l1_0 a1_1 bt113.1 bt113.2.1 bt119.1 bt119.2 bt124.1 bt124.2 bt129.1 bt129.2.1) else (laws_FnExactDivFloats.j0 k bt113.2.2 bt129.2.2 true l0_0 a0_1 l1_0 a1_1 bt113.1 bt113.2.1 bt119.1 bt119.2 bt124.1 bt124.2 bt129.1 bt129.2.1)))))))))))) = some r := H
 have A3 := am A30; clear A30
 by_cases c4 : t103 < 0
 ·rw [if_pos c4] at H
  have c4b0 : decide (t103 < 0) = true := decide_eq_true c4
  clear c4
  obtain rfl := Option.some.inj H
  go_enter Try.func3, Try.ntmps3
  go_wp2_with (first | ((with_reducible refine gate_dst (N := 2) rfl ?_); refine box_event ?hg (N := 2) ?hd (cs := #[.slice A0_0 l0_0.length c0_0, .int .i64 a0_1]) (t := 24) ?hr ?_; (case hd => rfl); (case hg => rfl); (case hr => first | (go_simp; done) | (go_simp; rfl)); intro gb101 hg w5 hbox hb; have n0_ := am (below_step (bB HB.out) hb); have n1_ := am (hbox); have n2_ := am ((by rw [hg]; exact (below_size (bB HB.out)) : w.heap.size ≤ gb101)); have n3_ := am ((by rw [hg]; exact (below_size (bB HB.out)) : w.heap.size ≤ gb101)); clear HB; have HB := n0_; have BK101 := n1_; have GW101 := n2_; have GE101 := n3_; clear n0_ n1_ n2_ n3_; clear hb hbox hg) | ((with_reducible refine gate_dst (N := 3) rfl ?_); refine box_event ?hg (N := 3) ?hd (cs := #[.slice A1_0 l1_0.length c1_0, .int .i64 a1_1]) (t := 24) ?hr ?_; (case hd => rfl); (case hg => rfl); (case hr => first | (go_simp; done) | (go_simp; rfl)); intro gb102 hg w6 hbox hb; have n0_ := am (blk_below (bA BK101.out) hb); have n1_ := am (below_step (bB HB.out) hb); have n2_ := am (hbox); have n3_ := am ((by rw [hg]; exact (below_size (bB HB.out)) : w.heap.size ≤ gb102)); have n4_ := am ((by rw [hg]; exact (below_size (bB HB.out)) : w.heap.size ≤ gb102)); have n5_ := am ((by rw [hg]; exact Nat.ne_of_lt (blk_lt (g := gb101) (o := .cells #[.slice A0_0 l0_0.length c0_0, .int .i64 a0_1] 24 (0, 0)) (bA BK101.out)) : gb101 ≠ gb102)); have n6_ := am ((by rw [hg]; exact Nat.ne_of_gt (blk_lt (g := gb101) (o := .cells #[.slice A0_0 l0_0.length c0_0, .int .i64 a0_1] 24 (0, 0)) (bA BK101.out)) : gb102 ≠ gb101)); clear BK101; clear HB; have BK101 := n0_; have HB := n1_; have BK102 := n2_; have GW102 := n3_; have GE102 := n4_; have NB101_102 := n5_; have NB102_101 := n6_; clear n0_ n1_ n2_ n3_ n4_ n5_ n6_; clear hb hbox hg; have hnb7 := NB101_102.out; have hnc7 := NB102_101.out; have hcz8_0 : w6.cell? ⟨gb101, 0, none⟩ = some (.slice A0_0 l0_0.length c0_0) := (blk_cell BK101.out 0).trans rfl; have hcz8_1 : w6.cell? ⟨gb101, 1, none⟩ = some (.int .i64 a0_1) := (blk_cell BK101.out 1).trans rfl; have hfz8_0 := blk_frozen BK101.out 0; have hfz8_1 := blk_frozen BK101.out 1) | ((with_reducible refine gate_callee (f := 6) rfl ?_); refine goesL_ (some 19) rfl rfl Try.func6 (by kernel_rfl) rfl #[.agg #[.slice A0_0 l0_0.length c0_0, .int .i64 a0_1], .int .i64 1048576] rfl bE ?_; (with_reducible refine (laws_szFloating.calls _ _ l0_0 a0_1 1048576 t103 _ ?side1 ?side2 A3.out).mono ?_); (case side1 => exact bD ((Kd.C_below HR0_0.out HB.out))); (case side2 => exact HC0_0.out); rintro e w9 ⟨rfl, hb⟩; refine ⟨_, rfl, ?_⟩; have n0_ := am (blk_below (bA BK101.out) hb); have n1_ := am (blk_below (bA BK102.out) hb); have n2_ := am (below_step (bB HB.out) hb); clear BK101; clear BK102; clear HB; have BK101 := n0_; have BK102 := n1_; have HB := n2_; clear n0_ n1_ n2_; (try clear hb); (try clear hb2); (try clear hk); (try clear hi)))
  go_ret
  exact ⟨by first | rfl | (simp [errW_none, errW_some] <;> rfl) | (simp [*, errW_none, errW_some] <;> rfl), bB HB.out⟩
 ·rw [if_neg c4] at H
  have c4b0 : decide (t103 < 0) = false := decide_eq_false c4
  clear c4
  replace H := Option.bind_eq_some_iff.mp H
  obtain ⟨t104, A100, H⟩ := H
  replace H : (if t104 < 0 then (some true) else ((laws_toFloating.f k l0_0 a0_1).bind fun bt105 => ((laws_toFloating.f k l1_0 a1_1).bind fun bt109 => ((spec_DivFloats.f k bt105.1 bt105.2 bt109.1 bt109.2).bind fun bt113 => ((laws_toFloating.f k l0_0 a0_1).bind fun bt119 => ((laws_toFloating.f k l1_0 a1_1).bind fun bt124 => ((impl_DivFloats.f k bt119.1 bt119.2 bt124.1 bt124.2).bind fun bt129 => ((laws_eqFloating.f k bt129.1 bt129.2.1 bt113.1 bt113.2.1).bind fun t135 => (if t135 = true then (laws_FnExactDivFloats.j0 k bt113.2.2 bt129.2.2 (bt129.2.2 != bt113.2.2) l0_0 a0_1 l1_0 a1_1 bt113.1 bt113.2.1 bt119.1 bt119.2 bt124.1 bt124.2 bt129.1 bt129.2.1) else (laws_FnExactDivFloats.j0 k bt113.2.2 bt129.2.2 true l0_0 a0_1 l1_0 a1_1 bt113.1 bt113.2.1 bt119.1 bt119.2 bt124.1 bt124.2 bt129.1 bt129.2.1)))))))))) = some r := H
  have A10 := am A100; clear A100
  by_cases c11 : t104 < 0
  ·rw [if_pos c11] at H
   have c11b0 : decide (t104 < 0) = true := decide_eq_true c11
   clear c11
   obtain rfl := Option.some.inj H
   go_enter Try.func3, Try.ntmps3
   go_wp2_with (first | ((with_reducible refine gate_dst (N := 2) rfl ?_); refine box_event ?hg (N := 2) ?hd (cs := #[.slice A0_0 l0_0.length c0_0, .int .i64 a0_1]) (t := 24) ?hr ?_; (case hd => rfl); (case hg => rfl); (case hr => first | (go_simp; done) | (go_simp; rfl)); intro gb101 hg w12 hbox hb; have n0_ := am (below_step (bB HB.out) hb); have n1_ := am (hbox); have n2_ := am ((by rw [hg]; exact (below_size (bB HB.out)) : w.heap.size ≤ gb101)); have n3_ := am ((by rw [hg]; exact (below_size (bB HB.out)) : w.heap.size ≤ gb101)); clear HB; have HB := n0_; have BK101 := n1_; have GW101 := n2_; have GE101 := n3_; clear n0_ n1_ n2_ n3_; clear hb hbox hg) | ((with_reducible refine gate_dst (N := 3) rfl ?_); refine box_event ?hg (N := 3) ?hd (cs := #[.slice A1_0 l1_0.length c1_0, .int .i64 a1_1]) (t := 24) ?hr ?_; (case hd => rfl); (case hg => rfl); (case hr => first | (go_simp; done) | (go_simp; rfl)); intro gb102 hg w13 hbox hb; have n0_ := am (blk_below (bA BK101.out) hb); have n1_ := am (below_step (bB HB.out) hb); have n2_ := am (hbox); have n3_ := am ((by rw [hg]; exact (below_size (bB HB.out)) : w.heap.size ≤ gb102)); have n4_ := am ((by rw [hg]; exact (below_size (bB HB.out)) : w.heap.size ≤ gb102)); have n5_ := am ((by rw [hg]; exact Nat.ne_of_lt (blk_lt (g := gb101) (o := .cells #[.slice A0_0 l0_0.length c0_0, .int .i64 a0_1] 24 (0, 0)) (bA BK101.out)) : gb101 ≠ gb102)); have n6_ := am ((by rw [hg]; exact Nat.ne_of_gt (blk_lt (g := gb101) (o := .cells #[.slice A0_0 l0_0.length c0_0, .int .i64 a0_1] 24 (0, 0)) (bA BK101.out)) : gb102 ≠ gb101)); clear BK101; clear HB; have BK101 := n0_; have HB := n1_; have BK102 := n2_; have GW102 := n3_; have GE102 := n4_; have NB101_102 := n5_; have NB102_101 := n6_; clear n0_ n1_ n2_ n3_ n4_ n5_ n6_; clear hb hbox hg; have hnb14 := NB101_102.out; have hnc14 := NB102_101.out; have hcz15_0 : w13.cell? ⟨gb101, 0, none⟩ = some (.slice A0_0 l0_0.length c0_0) := (blk_cell BK101.out 0).trans rfl; have hcz15_1 : w13.cell? ⟨gb101, 1, none⟩ = some (.int .i64 a0_1) := (blk_cell BK101.out 1).trans rfl; have hfz15_0 := blk_frozen BK101.out 0; have hfz15_1 := blk_frozen BK101.out 1) | ((with_reducible refine gate_callee (f := 6) rfl ?_); refine goesL_ (some 19) rfl rfl Try.func6 (by kernel_rfl) rfl #[.agg #[.slice A0_0 l0_0.length c0_0, .int .i64 a0_1], .int .i64 1048576] rfl bE ?_; (with_reducible refine (laws_szFloating.calls _ _ l0_0 a0_1 1048576 t103 _ ?side1 ?side2 A3.out).mono ?_); (case side1 => exact bD ((Kd.C_below HR0_0.out HB.out))); (case side2 => exact HC0_0.out); rintro e w16 ⟨rfl, hb⟩; refine ⟨_, rfl, ?_⟩; have n0_ := am (blk_below (bA BK101.out) hb); have n1_ := am (blk_below (bA BK102.out) hb); have n2_ := am (below_step (bB HB.out) hb); clear BK101; clear BK102; clear HB; have BK101 := n0_; have BK102 := n1_; have HB := n2_; clear n0_ n1_ n2_; (try clear hb); (try clear hb2); (try clear hk); (try clear hi); have hcz17_0 : w16.cell? ⟨gb102, 0, none⟩ = some (.slice A1_0 l1_0.length c1_0) := (blk_cell BK102.out 0).trans rfl; have hcz17_1 : w16.cell? ⟨gb102, 1, none⟩ = some (.int .i64 a1_1) := (blk_cell BK102.out 1).trans rfl; have hfz17_0 := blk_frozen BK102.out 0; have hfz17_1 := blk_frozen BK102.out 1) | ((with_reducible refine gate_callee (f := 6) rfl ?_); refine goesL_ (some 24) rfl rfl Try.func6 (by kernel_rfl) rfl #[.agg #[.slice A1_0 l1_0.length c1_0, .int .i64 a1_1], .int .i64 t103] rfl bE ?_; (with_reducible refine (laws_szFloating.calls _ _ l1_0 a1_1 t103 t104 _ ?side1 ?side2 A10.out).mono ?_); (case side1 => exact bD ((Kd.C_below HR1_0.out HB.out))); (case side2 => exact HC1_0.out); rintro e w18 ⟨rfl, hb⟩; refine ⟨_, rfl, ?_⟩; have n0_ := am (blk_below (bA BK101.out) hb); have n1_ := am (blk_below (bA BK102.out) hb); have n2_ := am (below_step (bB HB.out) hb); clear BK101; clear BK102; clear HB; have BK101 := n0_; have BK102 := n1_; have HB := n2_; clear n0_ n1_ n2_; (try clear hb); (try clear hb2); (try clear hk); (try clear hi)))
   go_ret
   exact ⟨by first | rfl | (simp [errW_none, errW_some] <;> rfl) | (simp [*, errW_none, errW_some] <;> rfl), bB HB.out⟩
  ·rw [if_neg c11] at H
   have c11b0 : decide (t104 < 0) = false := decide_eq_false c11
   clear c11
   replace H := Option.bind_eq_some_iff.mp H
   obtain ⟨⟨t105, t108⟩, A190, H⟩ := H
   replace H : ((laws_toFloating.f k l1_0 a1_1).bind fun bt109 => ((spec_DivFloats.f k t105 t108 bt109.1 bt109.2).bind fun bt113 => ((laws_toFloating.f k l0_0 a0_1).bind fun bt119 => ((laws_toFloating.f k l1_0 a1_1).bind fun bt124 => ((impl_DivFloats.f k bt119.1 bt119.2 bt124.1 bt124.2).bind fun bt129 => ((laws_eqFloating.f k bt129.1 bt129.2.1 bt113.1 bt113.2.1).bind fun t135 => (if t135 = true then (laws_FnExactDivFloats.j0 k bt113.2.2 bt129.2.2 (bt129.2.2 != bt113.2.2) l0_0 a0_1 l1_0 a1_1 bt113.1 bt113.2.1 bt119.1 bt119.2 bt124.1 bt124.2 bt129.1 bt129.2.1) else (laws_FnExactDivFloats.j0 k bt113.2.2 bt129.2.2 true l0_0 a0_1 l1_0 a1_1 bt113.1 bt113.2.1 bt119.1 bt119.2 bt124.1 bt124.2 bt129.1 bt129.2.1)))))))) = some r := H
   have A19 := am A190; clear A190
   replace H := Option.bind_eq_some_iff.mp H
   obtain ⟨⟨t109, t112⟩, A200, H⟩ := H
   replace H : ((spec_DivFloats.f k t105 t108 t109 t112).bind fun bt113 => ((laws_toFloating.f k l0_0 a0_1).bind fun bt119 => ((laws_toFloating.f k l1_0 a1_1).bind fun bt124 => ((impl_DivFloats.f k bt119.1 bt119.2 bt124.1 bt124.2).bind fun bt129 => ((laws_eqFloating.f k bt129.1 bt129.2.1 bt113.1 bt113.2.1).bind fun t135 => (if t135 = true then (laws_FnExactDivFloats.j0 k bt113.2.2 bt129.2.2 (bt129.2.2 != bt113.2.2) l0_0 a0_1 l1_0 a1_1 bt113.1 bt113.2.1 bt119.1 bt119.2 bt124.1 bt124.2 bt129.1 bt129.2.1) else (laws_FnExactDivFloats.j0 k bt113.2.2 bt129.2.2 true l0_0 a0_1 l1_0 a1_1 bt113.1 bt113.2.1 bt119.1 bt119.2 bt124.1 bt124.2 bt129.1 bt129.2.1))))))) = some r := H
   have A20 := am A200; clear A200
   replace H := Option.bind_eq_some_iff.mp H
   obtain ⟨⟨t113, t116, t117⟩, A210, H⟩ := H
   replace H : ((laws_toFloating.f k l0_0 a0_1).bind fun bt119 => ((laws_toFloating.f k l1_0 a1_1).bind fun bt124 => ((impl_DivFloats.f k bt119.1 bt119.2 bt124.1 bt124.2).bind fun bt129 => ((laws_eqFloating.f k bt129.1 bt129.2.1 t113 t116).bind fun t135 => (if t135 = true then (laws_FnExactDivFloats.j0 k t117 bt129.2.2 (bt129.2.2 != t117) l0_0 a0_1 l1_0 a1_1 t113 t116 bt119.1 bt119.2 bt124.1 bt124.2 bt129.1 bt129.2.1) else (laws_FnExactDivFloats.j0 k t117 bt129.2.2 true l0_0 a0_1 l1_0 a1_1 t113 t116 bt119.1 bt119.2 bt124.1 bt124.2 bt129.1 bt129.2.1)))))) = some r := H
   have A21 := am A210; clear A210
   replace H := Option.bind_eq_some_iff.mp H
   obtain ⟨⟨t119, t122⟩, A220, H⟩ := H
   replace H : ((laws_toFloating.f k l1_0 a1_1).bind fun bt124 => ((impl_DivFloats.f k t119 t122 bt124.1 bt124.2).bind fun bt129 => ((laws_eqFloating.f k bt129.1 bt129.2.1 t113 t116).bind fun t135 => (if t135 = true then (laws_FnExactDivFloats.j0 k t117 bt129.2.2 (bt129.2.2 != t117) l0_0 a0_1 l1_0 a1_1 t113 t116 t119 t122 bt124.1 bt124.2 bt129.1 bt129.2.1) else (laws_FnExactDivFloats.j0 k t117 bt129.2.2 true l0_0 a0_1 l1_0 a1_1 t113 t116 t119 t122 bt124.1 bt124.2 bt129.1 bt129.2.1))))) = some r := H
   have A22 := am A220; clear A220
   replace H := Option.bind_eq_some_iff.mp H
   obtain ⟨⟨t124, t127⟩, A230, H⟩ := H
   replace H : ((impl_DivFloats.f k t119 t122 t124 t127).bind fun bt129 => ((laws_eqFloating.f k bt129.1 bt129.2.1 t113 t116).bind fun t135 => (if t135 = true then (laws_FnExactDivFloats.j0 k t117 bt129.2.2 (bt129.2.2 != t117) l0_0 a0_1 l1_0 a1_1 t113 t116 t119 t122 t124 t127 bt129.1 bt129.2.1) else (laws_FnExactDivFloats.j0 k t117 bt129.2.2 true l0_0 a0_1 l1_0 a1_1 t113 t116 t119 t122 t124 t127 bt129.1 bt129.2.1)))) = some r := H
   have A23 := am A230; clear A230
   replace H := Option.bind_eq_some_iff.mp H
   obtain ⟨⟨t129, t132, t133⟩, A240, H⟩ := H
   replace H : ((laws_eqFloating.f k t129 t132 t113 t116).bind fun t135 => (if t135 = true then (laws_FnExactDivFloats.j0 k t117 t133 (t133 != t117) l0_0 a0_1 l1_0 a1_1 t113 t116 t119 t122 t124 t127 t129 t132) else (laws_FnExactDivFloats.j0 k t117 t133 true l0_0 a0_1 l1_0 a1_1 t113 t116 t119 t122 t124 t127 t129 t132))) = some r := H
   have A24 := am A240; clear A240; have HC25 := am H; clear H
   go_enter Try.func3, Try.ntmps3
   try go_wp2_with (first | ((with_reducible refine gate_dst (N := 2) rfl ?_); refine box_event ?hg (N := 2) ?hd (cs := #[.slice A0_0 l0_0.length c0_0, .int .i64 a0_1]) (t := 24) ?hr ?_; (case hd => rfl); (case hg => rfl); (case hr => first | (go_simp; done) | (go_simp; rfl)); intro gb101 hg w26 hbox hb; have n0_ := am (below_step (bB HB.out) hb); have n1_ := am (hbox); have n2_ := am ((by rw [hg]; exact (below_size (bB HB.out)) : w.heap.size ≤ gb101)); have n3_ := am ((by rw [hg]; exact (below_size (bB HB.out)) : w.heap.size ≤ gb101)); clear HB; have HB := n0_; have BK101 := n1_; have GW101 := n2_; have GE101 := n3_; clear n0_ n1_ n2_ n3_; clear hb hbox hg) | ((with_reducible refine gate_dst (N := 3) rfl ?_); refine box_event ?hg (N := 3) ?hd (cs := #[.slice A1_0 l1_0.length c1_0, .int .i64 a1_1]) (t := 24) ?hr ?_; (case hd => rfl); (case hg => rfl); (case hr => first | (go_simp; done) | (go_simp; rfl)); intro gb102 hg w27 hbox hb; have n0_ := am (blk_below (bA BK101.out) hb); have n1_ := am (below_step (bB HB.out) hb); have n2_ := am (hbox); have n3_ := am ((by rw [hg]; exact (below_size (bB HB.out)) : w.heap.size ≤ gb102)); have n4_ := am ((by rw [hg]; exact (below_size (bB HB.out)) : w.heap.size ≤ gb102)); have n5_ := am ((by rw [hg]; exact Nat.ne_of_lt (blk_lt (g := gb101) (o := .cells #[.slice A0_0 l0_0.length c0_0, .int .i64 a0_1] 24 (0, 0)) (bA BK101.out)) : gb101 ≠ gb102)); have n6_ := am ((by rw [hg]; exact Nat.ne_of_gt (blk_lt (g := gb101) (o := .cells #[.slice A0_0 l0_0.length c0_0, .int .i64 a0_1] 24 (0, 0)) (bA BK101.out)) : gb102 ≠ gb101)); clear BK101; clear HB; have BK101 := n0_; have HB := n1_; have BK102 := n2_; have GW102 := n3_; have GE102 := n4_; have NB101_102 := n5_; have NB102_101 := n6_; clear n0_ n1_ n2_ n3_ n4_ n5_ n6_; clear hb hbox hg; have hnb28 := NB101_102.out; have hnc28 := NB102_101.out; have hcz29_0 : w27.cell? ⟨gb101, 0, none⟩ = some (.slice A0_0 l0_0.length c0_0) := (blk_cell BK101.out 0).trans rfl; have hcz29_1 : w27.cell? ⟨gb101, 1, none⟩ = some (.int .i64 a0_1) := (blk_cell BK101.out 1).trans rfl; have hfz29_0 := blk_frozen BK101.out 0; have hfz29_1 := blk_frozen BK101.out 1) | ((with_reducible refine gate_callee (f := 6) rfl ?_); refine goesL_ (some 19) rfl rfl Try.func6 (by kernel_rfl) rfl #[.agg #[.slice A0_0 l0_0.length c0_0, .int .i64 a0_1], .int .i64 1048576] rfl bE ?_; (with_reducible refine (laws_szFloating.calls _ _ l0_0 a0_1 1048576 t103 _ ?side1 ?side2 A3.out).mono ?_); (case side1 => exact bD ((Kd.C_below HR0_0.out HB.out))); (case side2 => exact HC0_0.out); rintro e w30 ⟨rfl, hb⟩; refine ⟨_, rfl, ?_⟩; have n0_ := am (blk_below (bA BK101.out) hb); have n1_ := am (blk_below (bA BK102.out) hb); have n2_ := am (below_step (bB HB.out) hb); clear BK101; clear BK102; clear HB; have BK101 := n0_; have BK102 := n1_; have HB := n2_; clear n0_ n1_ n2_; (try clear hb); (try clear hb2); (try clear hk); (try clear hi); have hcz31_0 : w30.cell? ⟨gb102, 0, none⟩ = some (.slice A1_0 l1_0.length c1_0) := (blk_cell BK102.out 0).trans rfl; have hcz31_1 : w30.cell? ⟨gb102, 1, none⟩ = some (.int .i64 a1_1) := (blk_cell BK102.out 1).trans rfl; have hfz31_0 := blk_frozen BK102.out 0; have hfz31_1 := blk_frozen BK102.out 1) | ((with_reducible refine gate_callee (f := 6) rfl ?_); refine goesL_ (some 24) rfl rfl Try.func6 (by kernel_rfl) rfl #[.agg #[.slice A1_0 l1_0.length c1_0, .int .i64 a1_1], .int .i64 t103] rfl bE ?_; (with_reducible refine (laws_szFloating.calls _ _ l1_0 a1_1 t103 t104 _ ?side1 ?side2 A10.out).mono ?_); (case side1 => exact bD ((Kd.C_below HR1_0.out HB.out))); (case side2 => exact HC1_0.out); rintro e w32 ⟨rfl, hb⟩; refine ⟨_, rfl, ?_⟩; have n0_ := am (blk_below (bA BK101.out) hb); have n1_ := am (blk_below (bA BK102.out) hb); have n2_ := am (below_step (bB HB.out) hb); clear BK101; clear BK102; clear HB; have BK101 := n0_; have BK102 := n1_; have HB := n2_; clear n0_ n1_ n2_; (try clear hb); (try clear hb2); (try clear hk); (try clear hi)))
   have n0_ := am (blk_drew BK101.out); have n1_ := am (blk_drew BK102.out); have n2_ := am (below_drew1 HB.out); clear BK101; clear BK102; clear HB; have BK101 := n0_; have BK102 := n1_; have HB := n2_; clear n0_ n1_ n2_
   refine start_ (n := 11) (S := fun w' => w'.cell? ⟨gb101, 0, none⟩ = some (.slice A0_0 l0_0.length c0_0) ∧ w'.cell? ⟨gb101, 1, none⟩ = some (.int .i64 a0_1) ∧ w'.cell? ⟨gb102, 0, none⟩ = some (.slice A1_0 l1_0.length c1_0) ∧ w'.cell? ⟨gb102, 1, none⟩ = some (.int .i64 a1_1)) (ds := []) q3_0 (by kernel_rfl) rfl rfl ⟨(blk_cell BK101.out 0).trans rfl, (blk_cell BK101.out 1).trans rfl, (blk_cell BK102.out 0).trans rfl, (blk_cell BK102.out 1).trans rfl⟩ (fun hHeld => ?_); refine with_tabW laws_FnExactDivFloats.tab8 laws_FnExactDivFloats.bits8 (fun HT_ HW_ => ?_)
   generalize w32.drew = w33 at BK101 BK102 HB hHeld ⊢
   refine take_ (i := 0) (N := some 28) (v := ?_) (a' := ?_) q3_1 rfl rfl (take_ofW HT_.out HW_.out (by kernel_rfl)) (fun _ _ _ h => h) (Or.inl ⟨by rfl, ?_⟩) hHeld ?_ ?_; rotate_left
   ·rintro w' ⟨s0, s1, s2, s3⟩
    go_simp; with_reducible rfl
   rotate_left
   ·simp only [Act.put, qa3, qb3, qc3, i64_w, i32_w]
    rfl
   refine take_ (i := 2) (N := some 30) (v := ?_) (a' := ?_) q3_2 rfl rfl (take_ofW HT_.out HW_.out (by kernel_rfl)) (fun _ _ _ h => h) (Or.inl ⟨by rfl, ?_⟩) hHeld ?_ ?_; rotate_left
   ·rintro w' ⟨s0, s1, s2, s3⟩
    go_simp; with_reducible rfl
   rotate_left
   ·simp only [Act.put, qa3, qb3, qc3, i64_w, i32_w]
    rfl
   refine join_ (σ := Value × Value × Value × Nat) 2 q3_3 (fun s_ => [(29, .agg #[s_.1, .int .i64 t108]), (31, .agg #[s_.2.1, .int .i64 t112]), (32, .tuple #[.agg #[s_.2.2.1, .int .i64 t116], .bool t117]), (6, .pointer (some ⟨s_.2.2.2, 0, none⟩)), (27, .tuple #[.agg #[s_.2.2.1, .int .i64 t116], .bool t117]), (33, .agg #[s_.2.2.1, .int .i64 t116]), (34, .bool t117)]) (fun s_ w' => (w'.cell? ⟨gb101, 0, none⟩ = some (.slice A0_0 l0_0.length c0_0) ∧ w'.cell? ⟨gb101, 1, none⟩ = some (.int .i64 a0_1) ∧ w'.cell? ⟨gb102, 0, none⟩ = some (.slice A1_0 l1_0.length c1_0) ∧ w'.cell? ⟨gb102, 1, none⟩ = some (.int .i64 a1_1)) ∧ (Kd.R (Kd.int .i64) 3 w' w.heap.size (fun k_ => some k_ ≠ (s_.2.1 : Value).ownBlock ∧ some k_ ≠ (s_.2.2.1 : Value).ownBlock) s_.1 t105) ∧ (Kd.R (Kd.int .i64) 3 w' w.heap.size (fun k_ => some k_ ≠ (s_.1 : Value).ownBlock ∧ some k_ ≠ (s_.2.2.1 : Value).ownBlock) s_.2.1 t109) ∧ (Kd.R (Kd.int .i64) 3 w' w.heap.size (fun k_ => some k_ ≠ (s_.1 : Value).ownBlock ∧ some k_ ≠ (s_.2.1 : Value).ownBlock) s_.2.2.1 t113) ∧ (w'.heap[gb101]? = some (.cells #[.slice A0_0 l0_0.length c0_0, .int .i64 a0_1] 24 (0, 0))) ∧ (w'.heap[gb102]? = some (.cells #[.slice A1_0 l1_0.length c1_0, .int .i64 a1_1] 24 (0, 0))) ∧ (w'.heap[s_.2.2.2]? = some (.cells #[.slice none 0 0, .int .i64 0] 26 (0, 0))) ∧ (w.heap.size ≤ s_.2.2.2) ∧ (w.heap.size ≤ s_.2.2.2) ∧ (gb101 ≠ s_.2.2.2) ∧ (s_.2.2.2 ≠ gb101) ∧ (gb102 ≠ s_.2.2.2) ∧ (s_.2.2.2 ≠ gb102) ∧ (Below w.heap.size w w')) ?_ ?_; rotate_left
   ·intro hCont
    refine two_ (i := 1) (j := 8) (Ni := some 29) (Nj := some 6) q3_4 q3_5 rfl rfl rfl rfl (two_of HT_.out (by kernel_rfl)) (by decide) (by decide) (fun K hK => ?_) (fun K hK => ?_)
    ·skip
     refine goes_ Try.func8 (by kernel_rfl) rfl #[.agg #[.slice A0_0 l0_0.length c0_0, .int .i64 a0_1]] (by rfl) rfl rfl bE ?_
     with_reducible refine (laws_toFloating.calls k _ _ l0_0 a0_1 t105 t108 _ ?side1 ?side2 A19.out).mono ?_
     (case side1 => exact bD ((Kd.C_below HR0_0.out HB.out)))
     (case side2 => exact HC0_0.out)
     rintro e w34 ⟨v106, rfl, ho0, hb⟩
     refine ⟨_, rfl, ?_⟩
     have n0_ := am (Kd.R_lower ho0 (below_size (bB HB.out))); have n1_ := am (blk_below (bA BK101.out) hb); have n2_ := am (blk_below (bA BK102.out) hb); have n3_ := am (below_step (bB HB.out) hb); clear BK101; clear BK102; clear HB; have HO107 := n0_; have BK101 := n1_; have BK102 := n2_; have HB := n3_; clear n0_ n1_ n2_ n3_; (try clear hb); (try clear hb2); (try clear hk); (try clear hi); (try clear ho0); clear A19
     refine hK.out _ _ ⟨(blk_cell BK101.out 0).trans rfl, (blk_cell BK101.out 1).trans rfl, (blk_cell BK102.out 0).trans rfl, (blk_cell BK102.out 1).trans rfl⟩ (fun hHeld => ?_)
     clear hK K
     refine norm_ (a' := ?_) ?_ ?_; rotate_left
     ·show Act.put _ (some 29) _ = _
      simp only [Act.put, qa3, qb3, qc3, i64_w, i32_w]
      rfl
     refine two_ (i := 3) (j := 8) (Ni := some 31) (Nj := some 6) q3_6 q3_7 rfl rfl rfl rfl (two_of HT_.out (by kernel_rfl)) (by decide) (by decide) (fun K hK => ?_) (fun K hK => ?_)
     ·skip
      refine goes_ Try.func8 (by kernel_rfl) rfl #[.agg #[.slice A1_0 l1_0.length c1_0, .int .i64 a1_1]] (by rfl) rfl rfl bE ?_
      with_reducible refine (laws_toFloating.calls k _ _ l1_0 a1_1 t109 t112 _ ?side1 ?side2 A20.out).mono ?_
      (case side1 => exact bD ((Kd.C_below HR1_0.out HB.out)))
      (case side2 => exact HC1_0.out)
      rintro e w35 ⟨v110, rfl, ho0, hb⟩
      refine ⟨_, rfl, ?_⟩
      have n0_ := am (Kd.R_elder' (bC HO107.out) (Kd.R_base ho0) hb); have n1_ := am (Kd.R_lower (Kd.R_new' ho0 (Kd.R_lt (bC HO107.out))) (below_size (bB HB.out))); have n2_ := am (blk_below (bA BK101.out) hb); have n3_ := am (blk_below (bA BK102.out) hb); have n4_ := am (below_step (bB HB.out) hb); clear HO107; clear BK101; clear BK102; clear HB; have HO107 := n0_; have HO111 := n1_; have BK101 := n2_; have BK102 := n3_; have HB := n4_; clear n0_ n1_ n2_ n3_ n4_; (try clear hb); (try clear hb2); (try clear hk); (try clear hi); (try clear ho0); clear A20
      obtain ⟨Ao36, co36, eo36⟩ := Kd.R_slice HO107.out
      (first | subst eo36 | (injection eo36 with f1_ f2_ f3_; have f4_ := f1_.symm; have f5_ := f3_.symm; clear f1_ f2_ f3_; subst f4_; subst f5_))
      obtain ⟨Ao37, co37, eo37⟩ := Kd.R_slice HO111.out
      (first | subst eo37 | (injection eo37 with f1_ f2_ f3_; have f4_ := f1_.symm; have f5_ := f3_.symm; clear f1_ f2_ f3_; subst f4_; subst f5_))
      refine hK.out _ _ ⟨(blk_cell BK101.out 0).trans rfl, (blk_cell BK101.out 1).trans rfl, (blk_cell BK102.out 0).trans rfl, (blk_cell BK102.out 1).trans rfl⟩ (fun hHeld => ?_)
      clear hK K
      refine norm_ (a' := ?_) ?_ ?_; rotate_left
      ·show Act.put _ (some 31) _ = _
       simp only [Act.put, qa3, qb3, qc3, i64_w, i32_w]
       rfl
      refine two_ (i := 4) (j := 8) (Ni := some 32) (Nj := some 6) q3_8 q3_9 rfl rfl rfl rfl (two_of HT_.out (by kernel_rfl)) (by decide) (by decide) (fun K hK => ?_) (fun K hK => ?_)
      ·skip
       refine goes_ Try.func7 (by kernel_rfl) rfl #[.agg #[.slice Ao36 t105.length co36, .int .i64 t108], .agg #[.slice Ao37 t109.length co37, .int .i64 t112]] (by rfl) rfl rfl bE ?_
       with_reducible refine (spec_DivFloats.calls k _ _ t105 t108 _ _ t109 t112 t113 t116 t117 _ ?side1 ?side2 ?side3 ?side4 A21.out).mono ?_
       (case side1 => exact bD ((Kd.R_reads' HO107.out).2.2))
       (case side2 => exact (Kd.R_reads' HO107.out).2.1)
       (case side3 => exact bD ((Kd.R_reads' HO111.out).2.2))
       (case side4 => exact (Kd.R_reads' HO111.out).2.1)
       rintro e w38 ⟨v114, rfl, ho0, hb⟩
       refine ⟨_, rfl, ?_⟩
       have n0_ := am (Kd.R_elder' (bC HO107.out) (Kd.R_base ho0) hb); have n1_ := am (Kd.R_elder' (bC HO111.out) (Kd.R_base ho0) hb); have n2_ := am (Kd.R_lower (Kd.R_new' (Kd.R_new' ho0 (Kd.R_lt (bC HO107.out))) (Kd.R_lt (bC HO111.out))) (below_size (bB HB.out))); have n3_ := am (blk_below (bA BK101.out) hb); have n4_ := am (blk_below (bA BK102.out) hb); have n5_ := am (below_step (bB HB.out) hb); clear HO107; clear HO111; clear BK101; clear BK102; clear HB; have HO107 := n0_; have HO111 := n1_; have HO115 := n2_; have BK101 := n3_; have BK102 := n4_; have HB := n5_; clear n0_ n1_ n2_ n3_ n4_ n5_; (try clear hb); (try clear hb2); (try clear hk); (try clear hi); (try clear ho0)
       refine hK.out _ _ ⟨(blk_cell BK101.out 0).trans rfl, (blk_cell BK101.out 1).trans rfl, (blk_cell BK102.out 0).trans rfl, (blk_cell BK102.out 1).trans rfl⟩ (fun hHeld => ?_)
       clear hK K
       refine norm_ (a' := ?_) ?_ ?_; rotate_left
       ·show Act.put _ (some 32) _ = _
        simp only [Act.put, qa3, qb3, qc3, i64_w, i32_w]
        rfl
       refine pure_ (i := 5) (N := some 27) (v := ?_) (a' := ?_) q3_10 rfl rfl (any_of HT_.out (by kernel_rfl)) (fun _ _ _ h => h) (Or.inl ⟨by rfl, ?_⟩) ?_ ?_; rotate_left
       ·intro w'
        go_simp; with_reducible rfl
       rotate_left
       ·simp only [Act.put, qa3, qb3, qc3, i64_w, i32_w]
        rfl
       refine pure_ (i := 6) (N := some 33) (v := ?_) (a' := ?_) q3_11 rfl rfl (any_of HT_.out (by kernel_rfl)) (fun _ _ _ h => h) (Or.inl ⟨by rfl, ?_⟩) ?_ ?_; rotate_left
       ·intro w'
        go_simp; with_reducible rfl
       rotate_left
       ·simp only [Act.put, qa3, qb3, qc3, i64_w, i32_w]
        rfl
       refine pure_ (i := 7) (N := some 34) (v := ?_) (a' := ?_) q3_12 rfl rfl (any_of HT_.out (by kernel_rfl)) (fun _ _ _ h => h) (Or.inl ⟨by rfl, ?_⟩) ?_ ?_; rotate_left
       ·intro w'
        go_simp; with_reducible rfl
       rotate_left
       ·simp only [Act.put, qa3, qb3, qc3, i64_w, i32_w]
        rfl
       refine one_ (i := 8) (N := some 6) q3_3 rfl rfl (one_of HT_.out (by kernel_rfl)) (by decide) (fun K hK => ?_)
       refine box_step ?hg (N := 6) ?hd (cs := #[.slice none 0 0, .int .i64 0]) (t := 26) ?hr ?_; (case hd => rfl); (case hg => rfl); (case hr => first | (go_simp; done) | (go_simp; rfl))
       intro gb118 hg w39 hbox hb
       have n0_ := am (Kd.R_below (bC HO107.out) hb); have n1_ := am (Kd.R_below (bC HO111.out) hb); have n2_ := am (Kd.R_below (bC HO115.out) hb); have n3_ := am (blk_below (bA BK101.out) hb); have n4_ := am (blk_below (bA BK102.out) hb); have n5_ := am (below_step (bB HB.out) hb); have n6_ := am (hbox); have n7_ := am ((by rw [hg]; exact (below_size (bB HB.out)) : w.heap.size ≤ gb118)); have n8_ := am ((by rw [hg]; exact (below_size (bB HB.out)) : w.heap.size ≤ gb118)); have n9_ := am ((by rw [hg]; exact Nat.ne_of_lt (blk_lt (g := gb101) (o := .cells #[.slice A0_0 l0_0.length c0_0, .int .i64 a0_1] 24 (0, 0)) (bA BK101.out)) : gb101 ≠ gb118)); have n10_ := am ((by rw [hg]; exact Nat.ne_of_gt (blk_lt (g := gb101) (o := .cells #[.slice A0_0 l0_0.length c0_0, .int .i64 a0_1] 24 (0, 0)) (bA BK101.out)) : gb118 ≠ gb101)); have n11_ := am ((by rw [hg]; exact Nat.ne_of_lt (blk_lt (g := gb102) (o := .cells #[.slice A1_0 l1_0.length c1_0, .int .i64 a1_1] 24 (0, 0)) (bA BK102.out)) : gb102 ≠ gb118)); have n12_ := am ((by rw [hg]; exact Nat.ne_of_gt (blk_lt (g := gb102) (o := .cells #[.slice A1_0 l1_0.length c1_0, .int .i64 a1_1] 24 (0, 0)) (bA BK102.out)) : gb118 ≠ gb102)); clear HO107; clear HO111; clear HO115; clear BK101; clear BK102; clear HB; have HO107 := n0_; have HO111 := n1_; have HO115 := n2_; have BK101 := n3_; have BK102 := n4_; have HB := n5_; have BK118 := n6_; have GW118 := n7_; have GE118 := n8_; have NB101_118 := n9_; have NB118_101 := n10_; have NB102_118 := n11_; have NB118_102 := n12_; clear n0_ n1_ n2_ n3_ n4_ n5_ n6_ n7_ n8_ n9_ n10_ n11_ n12_; clear hb hbox hg
       refine hK.out _ _ ⟨(blk_cell BK101.out 0).trans rfl, (blk_cell BK101.out 1).trans rfl, (blk_cell BK102.out 0).trans rfl, (blk_cell BK102.out 1).trans rfl⟩ (fun hHeld => ?_)
       clear hK K
       refine norm_ (a' := ?_) ?_ ?_; rotate_left
       ·show Act.put _ (some 6) _ = _
        simp only [Act.put, qa3, qb3, qc3, i64_w, i32_w]
        rfl
       exact norm_ (by simp only [putAll, Act.put, qa3, qb3, qc3]) (hCont (.slice Ao36 t105.length co36, .slice Ao37 t109.length co37, v114, gb118) _ ⟨hHeld, (bC (Kd.R_mono HO107.out (fun _ hk => ⟨hk.1.2, hk.2⟩))), (bC (Kd.R_mono HO111.out (fun _ hk => ⟨hk.1.2, hk.2⟩))), (bC (Kd.R_mono HO115.out (fun _ hk => ⟨hk.1.2, hk.2⟩))), (bA BK101.out), (bA BK102.out), (bA BK118.out), GW118.out, GE118.out, NB101_118.out, NB118_101.out, NB102_118.out, NB118_102.out, (bB HB.out)⟩)
      ·skip
       refine box_step ?hg (N := 6) ?hd (cs := #[.slice none 0 0, .int .i64 0]) (t := 26) ?hr ?_; (case hd => rfl); (case hg => rfl); (case hr => first | (go_simp; done) | (go_simp; rfl))
       intro gb118 hg w36 hbox hb
       have n0_ := am (Kd.R_below (bC HO107.out) hb); have n1_ := am (Kd.R_below (bC HO111.out) hb); have n2_ := am (blk_below (bA BK101.out) hb); have n3_ := am (blk_below (bA BK102.out) hb); have n4_ := am (below_step (bB HB.out) hb); have n5_ := am (hbox); have n6_ := am ((by rw [hg]; exact (below_size (bB HB.out)) : w.heap.size ≤ gb118)); have n7_ := am ((by rw [hg]; exact (below_size (bB HB.out)) : w.heap.size ≤ gb118)); have n8_ := am ((by rw [hg]; exact Nat.ne_of_lt (blk_lt (g := gb101) (o := .cells #[.slice A0_0 l0_0.length c0_0, .int .i64 a0_1] 24 (0, 0)) (bA BK101.out)) : gb101 ≠ gb118)); have n9_ := am ((by rw [hg]; exact Nat.ne_of_gt (blk_lt (g := gb101) (o := .cells #[.slice A0_0 l0_0.length c0_0, .int .i64 a0_1] 24 (0, 0)) (bA BK101.out)) : gb118 ≠ gb101)); have n10_ := am ((by rw [hg]; exact Nat.ne_of_lt (blk_lt (g := gb102) (o := .cells #[.slice A1_0 l1_0.length c1_0, .int .i64 a1_1] 24 (0, 0)) (bA BK102.out)) : gb102 ≠ gb118)); have n11_ := am ((by rw [hg]; exact Nat.ne_of_gt (blk_lt (g := gb102) (o := .cells #[.slice A1_0 l1_0.length c1_0, .int .i64 a1_1] 24 (0, 0)) (bA BK102.out)) : gb118 ≠ gb102)); clear HO107; clear HO111; clear BK101; clear BK102; clear HB; have HO107 := n0_; have HO111 := n1_; have BK101 := n2_; have BK102 := n3_; have HB := n4_; have BK118 := n5_; have GW118 := n6_; have GE118 := n7_; have NB101_118 := n8_; have NB118_101 := n9_; have NB102_118 := n10_; have NB118_102 := n11_; clear n0_ n1_ n2_ n3_ n4_ n5_ n6_ n7_ n8_ n9_ n10_ n11_; clear hb hbox hg
       obtain ⟨Ao37, co37, eo37⟩ := Kd.R_slice HO107.out
       (first | subst eo37 | (injection eo37 with f1_ f2_ f3_; have f4_ := f1_.symm; have f5_ := f3_.symm; clear f1_ f2_ f3_; subst f4_; subst f5_))
       obtain ⟨Ao38, co38, eo38⟩ := Kd.R_slice HO111.out
       (first | subst eo38 | (injection eo38 with f1_ f2_ f3_; have f4_ := f1_.symm; have f5_ := f3_.symm; clear f1_ f2_ f3_; subst f4_; subst f5_))
       refine hK.out _ _ ⟨(blk_cell BK101.out 0).trans rfl, (blk_cell BK101.out 1).trans rfl, (blk_cell BK102.out 0).trans rfl, (blk_cell BK102.out 1).trans rfl⟩ (fun hHeld => ?_)
       clear hK K
       refine norm_ (a' := ?_) ?_ ?_; rotate_left
       ·show Act.put _ (some 6) _ = _
        simp only [Act.put, qa3, qb3, qc3, i64_w, i32_w]
        rfl
       refine one_ (i := 4) (N := some 32) q3_13 rfl rfl (one_of HT_.out (by kernel_rfl)) (by decide) (fun K hK => ?_)
       refine goes_ Try.func7 (by kernel_rfl) rfl #[.agg #[.slice Ao37 t105.length co37, .int .i64 t108], .agg #[.slice Ao38 t109.length co38, .int .i64 t112]] (by rfl) rfl rfl bE ?_
       with_reducible refine (spec_DivFloats.calls k _ _ t105 t108 _ _ t109 t112 t113 t116 t117 _ ?side1 ?side2 ?side3 ?side4 A21.out).mono ?_
       (case side1 => exact bD ((Kd.R_reads' HO107.out).2.2))
       (case side2 => exact (Kd.R_reads' HO107.out).2.1)
       (case side3 => exact bD ((Kd.R_reads' HO111.out).2.2))
       (case side4 => exact (Kd.R_reads' HO111.out).2.1)
       rintro e w39 ⟨v114, rfl, ho0, hb⟩
       refine ⟨_, rfl, ?_⟩
       have n0_ := am (Kd.R_elder' (bC HO107.out) (Kd.R_base ho0) hb); have n1_ := am (Kd.R_elder' (bC HO111.out) (Kd.R_base ho0) hb); have n2_ := am (Kd.R_lower (Kd.R_new' (Kd.R_new' ho0 (Kd.R_lt (bC HO107.out))) (Kd.R_lt (bC HO111.out))) (below_size (bB HB.out))); have n3_ := am (blk_below (bA BK101.out) hb); have n4_ := am (blk_below (bA BK102.out) hb); have n5_ := am (blk_below (bA BK118.out) hb); have n6_ := am (below_step (bB HB.out) hb); clear HO107; clear HO111; clear BK101; clear BK102; clear BK118; clear HB; have HO107 := n0_; have HO111 := n1_; have HO115 := n2_; have BK101 := n3_; have BK102 := n4_; have BK118 := n5_; have HB := n6_; clear n0_ n1_ n2_ n3_ n4_ n5_ n6_; (try clear hb); (try clear hb2); (try clear hk); (try clear hi); (try clear ho0)
       refine hK.out _ _ ⟨(blk_cell BK101.out 0).trans rfl, (blk_cell BK101.out 1).trans rfl, (blk_cell BK102.out 0).trans rfl, (blk_cell BK102.out 1).trans rfl⟩ (fun hHeld => ?_)
       clear hK K
       refine norm_ (a' := ?_) ?_ ?_; rotate_left
       ·show Act.put _ (some 32) _ = _
        simp only [Act.put, qa3, qb3, qc3, i64_w, i32_w]
        rfl
       refine pure_ (i := 5) (N := some 27) (v := ?_) (a' := ?_) q3_14 rfl rfl (any_of HT_.out (by kernel_rfl)) (fun _ _ _ h => h) (Or.inl ⟨by rfl, ?_⟩) ?_ ?_; rotate_left
       ·intro w'
        go_simp; with_reducible rfl
       rotate_left
       ·simp only [Act.put, qa3, qb3, qc3, i64_w, i32_w]
        rfl
       refine pure_ (i := 6) (N := some 33) (v := ?_) (a' := ?_) q3_15 rfl rfl (any_of HT_.out (by kernel_rfl)) (fun _ _ _ h => h) (Or.inl ⟨by rfl, ?_⟩) ?_ ?_; rotate_left
       ·intro w'
        go_simp; with_reducible rfl
       rotate_left
       ·simp only [Act.put, qa3, qb3, qc3, i64_w, i32_w]
        rfl
       refine pure_ (i := 7) (N := some 34) (v := ?_) (a' := ?_) q3_3 rfl rfl (any_of HT_.out (by kernel_rfl)) (fun _ _ _ h => h) (Or.inl ⟨by rfl, ?_⟩) ?_ ?_; rotate_left
       ·intro w'
        go_simp; with_reducible rfl
       rotate_left
       ·simp only [Act.put, qa3, qb3, qc3, i64_w, i32_w]
        rfl
       exact norm_ (by simp only [putAll, Act.put, qa3, qb3, qc3]) (hCont (.slice Ao37 t105.length co37, .slice Ao38 t109.length co38, v114, gb118) _ ⟨hHeld, (bC (Kd.R_mono HO107.out (fun _ hk => ⟨hk.1.2, hk.2⟩))), (bC (Kd.R_mono HO111.out (fun _ hk => ⟨hk.1.2, hk.2⟩))), (bC (Kd.R_mono HO115.out (fun _ hk => ⟨hk.1.2, hk.2⟩))), (bA BK101.out), (bA BK102.out), (bA BK118.out), GW118.out, GE118.out, NB101_118.out, NB118_101.out, NB102_118.out, NB118_102.out, (bB HB.out)⟩)
     ·skip
      refine box_step ?hg (N := 6) ?hd (cs := #[.slice none 0 0, .int .i64 0]) (t := 26) ?hr ?_; (case hd => rfl); (case hg => rfl); (case hr => first | (go_simp; done) | (go_simp; rfl))
      intro gb118 hg w35 hbox hb
      have n0_ := am (Kd.R_below (bC HO107.out) hb); have n1_ := am (blk_below (bA BK101.out) hb); have n2_ := am (blk_below (bA BK102.out) hb); have n3_ := am (below_step (bB HB.out) hb); have n4_ := am (hbox); have n5_ := am ((by rw [hg]; exact (below_size (bB HB.out)) : w.heap.size ≤ gb118)); have n6_ := am ((by rw [hg]; exact (below_size (bB HB.out)) : w.heap.size ≤ gb118)); have n7_ := am ((by rw [hg]; exact Nat.ne_of_lt (blk_lt (g := gb101) (o := .cells #[.slice A0_0 l0_0.length c0_0, .int .i64 a0_1] 24 (0, 0)) (bA BK101.out)) : gb101 ≠ gb118)); have n8_ := am ((by rw [hg]; exact Nat.ne_of_gt (blk_lt (g := gb101) (o := .cells #[.slice A0_0 l0_0.length c0_0, .int .i64 a0_1] 24 (0, 0)) (bA BK101.out)) : gb118 ≠ gb101)); have n9_ := am ((by rw [hg]; exact Nat.ne_of_lt (blk_lt (g := gb102) (o := .cells #[.slice A1_0 l1_0.length c1_0, .int .i64 a1_1] 24 (0, 0)) (bA BK102.out)) : gb102 ≠ gb118)); have n10_ := am ((by rw [hg]; exact Nat.ne_of_gt (blk_lt (g := gb102) (o := .cells #[.slice A1_0 l1_0.length c1_0, .int .i64 a1_1] 24 (0, 0)) (bA BK102.out)) : gb118 ≠ gb102)); clear HO107; clear BK101; clear BK102; clear HB; have HO107 := n0_; have BK101 := n1_; have BK102 := n2_; have HB := n3_; have BK118 := n4_; have GW118 := n5_; have GE118 := n6_; have NB101_118 := n7_; have NB118_101 := n8_; have NB102_118 := n9_; have NB118_102 := n10_; clear n0_ n1_ n2_ n3_ n4_ n5_ n6_ n7_ n8_ n9_ n10_; clear hb hbox hg
      refine hK.out _ _ ⟨(blk_cell BK101.out 0).trans rfl, (blk_cell BK101.out 1).trans rfl, (blk_cell BK102.out 0).trans rfl, (blk_cell BK102.out 1).trans rfl⟩ (fun hHeld => ?_)
      clear hK K
      refine norm_ (a' := ?_) ?_ ?_; rotate_left
      ·show Act.put _ (some 6) _ = _
       simp only [Act.put, qa3, qb3, qc3, i64_w, i32_w]
       rfl
      refine one_ (i := 3) (N := some 31) q3_9 rfl rfl (one_of HT_.out (by kernel_rfl)) (by decide) (fun K hK => ?_)
      refine goes_ Try.func8 (by kernel_rfl) rfl #[.agg #[.slice A1_0 l1_0.length c1_0, .int .i64 a1_1]] (by rfl) rfl rfl bE ?_
      with_reducible refine (laws_toFloating.calls k _ _ l1_0 a1_1 t109 t112 _ ?side1 ?side2 A20.out).mono ?_
      (case side1 => exact bD ((Kd.C_below HR1_0.out HB.out)))
      (case side2 => exact HC1_0.out)
      rintro e w36 ⟨v110, rfl, ho0, hb⟩
      refine ⟨_, rfl, ?_⟩
      have n0_ := am (Kd.R_elder' (bC HO107.out) (Kd.R_base ho0) hb); have n1_ := am (Kd.R_lower (Kd.R_new' ho0 (Kd.R_lt (bC HO107.out))) (below_size (bB HB.out))); have n2_ := am (blk_below (bA BK101.out) hb); have n3_ := am (blk_below (bA BK102.out) hb); have n4_ := am (blk_below (bA BK118.out) hb); have n5_ := am (below_step (bB HB.out) hb); clear HO107; clear BK101; clear BK102; clear BK118; clear HB; have HO107 := n0_; have HO111 := n1_; have BK101 := n2_; have BK102 := n3_; have BK118 := n4_; have HB := n5_; clear n0_ n1_ n2_ n3_ n4_ n5_; (try clear hb); (try clear hb2); (try clear hk); (try clear hi); (try clear ho0); clear A20
      obtain ⟨Ao37, co37, eo37⟩ := Kd.R_slice HO107.out
      (first | subst eo37 | (injection eo37 with f1_ f2_ f3_; have f4_ := f1_.symm; have f5_ := f3_.symm; clear f1_ f2_ f3_; subst f4_; subst f5_))
      obtain ⟨Ao38, co38, eo38⟩ := Kd.R_slice HO111.out
      (first | subst eo38 | (injection eo38 with f1_ f2_ f3_; have f4_ := f1_.symm; have f5_ := f3_.symm; clear f1_ f2_ f3_; subst f4_; subst f5_))
      refine hK.out _ _ ⟨(blk_cell BK101.out 0).trans rfl, (blk_cell BK101.out 1).trans rfl, (blk_cell BK102.out 0).trans rfl, (blk_cell BK102.out 1).trans rfl⟩ (fun hHeld => ?_)
      clear hK K
      refine norm_ (a' := ?_) ?_ ?_; rotate_left
      ·show Act.put _ (some 31) _ = _
       simp only [Act.put, qa3, qb3, qc3, i64_w, i32_w]
       rfl
      refine one_ (i := 4) (N := some 32) q3_13 rfl rfl (one_of HT_.out (by kernel_rfl)) (by decide) (fun K hK => ?_)
      refine goes_ Try.func7 (by kernel_rfl) rfl #[.agg #[.slice Ao37 t105.length co37, .int .i64 t108], .agg #[.slice Ao38 t109.length co38, .int .i64 t112]] (by rfl) rfl rfl bE ?_
      with_reducible refine (spec_DivFloats.calls k _ _ t105 t108 _ _ t109 t112 t113 t116 t117 _ ?side1 ?side2 ?side3 ?side4 A21.out).mono ?_
      (case side1 => exact bD ((Kd.R_reads' HO107.out).2.2))
      (case side2 => exact (Kd.R_reads' HO107.out).2.1)
      (case side3 => exact bD ((Kd.R_reads' HO111.out).2.2))
      (case side4 => exact (Kd.R_reads' HO111.out).2.1)
      rintro e w39 ⟨v114, rfl, ho0, hb⟩
      refine ⟨_, rfl, ?_⟩
      have n0_ := am (Kd.R_elder' (bC HO107.out) (Kd.R_base ho0) hb); have n1_ := am (Kd.R_elder' (bC HO111.out) (Kd.R_base ho0) hb); have n2_ := am (Kd.R_lower (Kd.R_new' (Kd.R_new' ho0 (Kd.R_lt (bC HO107.out))) (Kd.R_lt (bC HO111.out))) (below_size (bB HB.out))); have n3_ := am (blk_below (bA BK101.out) hb); have n4_ := am (blk_below (bA BK102.out) hb); have n5_ := am (blk_below (bA BK118.out) hb); have n6_ := am (below_step (bB HB.out) hb); clear HO107; clear HO111; clear BK101; clear BK102; clear BK118; clear HB; have HO107 := n0_; have HO111 := n1_; have HO115 := n2_; have BK101 := n3_; have BK102 := n4_; have BK118 := n5_; have HB := n6_; clear n0_ n1_ n2_ n3_ n4_ n5_ n6_; (try clear hb); (try clear hb2); (try clear hk); (try clear hi); (try clear ho0)
      refine hK.out _ _ ⟨(blk_cell BK101.out 0).trans rfl, (blk_cell BK101.out 1).trans rfl, (blk_cell BK102.out 0).trans rfl, (blk_cell BK102.out 1).trans rfl⟩ (fun hHeld => ?_)
      clear hK K
      refine norm_ (a' := ?_) ?_ ?_; rotate_left
      ·show Act.put _ (some 32) _ = _
       simp only [Act.put, qa3, qb3, qc3, i64_w, i32_w]
       rfl
      refine pure_ (i := 5) (N := some 27) (v := ?_) (a' := ?_) q3_14 rfl rfl (any_of HT_.out (by kernel_rfl)) (fun _ _ _ h => h) (Or.inl ⟨by rfl, ?_⟩) ?_ ?_; rotate_left
      ·intro w'
       go_simp; with_reducible rfl
      rotate_left
      ·simp only [Act.put, qa3, qb3, qc3, i64_w, i32_w]
       rfl
      refine pure_ (i := 6) (N := some 33) (v := ?_) (a' := ?_) q3_15 rfl rfl (any_of HT_.out (by kernel_rfl)) (fun _ _ _ h => h) (Or.inl ⟨by rfl, ?_⟩) ?_ ?_; rotate_left
      ·intro w'
       go_simp; with_reducible rfl
      rotate_left
      ·simp only [Act.put, qa3, qb3, qc3, i64_w, i32_w]
       rfl
      refine pure_ (i := 7) (N := some 34) (v := ?_) (a' := ?_) q3_3 rfl rfl (any_of HT_.out (by kernel_rfl)) (fun _ _ _ h => h) (Or.inl ⟨by rfl, ?_⟩) ?_ ?_; rotate_left
      ·intro w'
       go_simp; with_reducible rfl
      rotate_left
      ·simp only [Act.put, qa3, qb3, qc3, i64_w, i32_w]
       rfl
      exact norm_ (by simp only [putAll, Act.put, qa3, qb3, qc3]) (hCont (.slice Ao37 t105.length co37, .slice Ao38 t109.length co38, v114, gb118) _ ⟨hHeld, (bC (Kd.R_mono HO107.out (fun _ hk => ⟨hk.1.2, hk.2⟩))), (bC (Kd.R_mono HO111.out (fun _ hk => ⟨hk.1.2, hk.2⟩))), (bC (Kd.R_mono HO115.out (fun _ hk => ⟨hk.1.2, hk.2⟩))), (bA BK101.out), (bA BK102.out), (bA BK118.out), GW118.out, GE118.out, NB101_118.out, NB118_101.out, NB102_118.out, NB118_102.out, (bB HB.out)⟩)
    ·skip
     refine box_step ?hg (N := 6) ?hd (cs := #[.slice none 0 0, .int .i64 0]) (t := 26) ?hr ?_; (case hd => rfl); (case hg => rfl); (case hr => first | (go_simp; done) | (go_simp; rfl))
     intro gb118 hg w34 hbox hb
     have n0_ := am (blk_below (bA BK101.out) hb); have n1_ := am (blk_below (bA BK102.out) hb); have n2_ := am (below_step (bB HB.out) hb); have n3_ := am (hbox); have n4_ := am ((by rw [hg]; exact (below_size (bB HB.out)) : w.heap.size ≤ gb118)); have n5_ := am ((by rw [hg]; exact (below_size (bB HB.out)) : w.heap.size ≤ gb118)); have n6_ := am ((by rw [hg]; exact Nat.ne_of_lt (blk_lt (g := gb101) (o := .cells #[.slice A0_0 l0_0.length c0_0, .int .i64 a0_1] 24 (0, 0)) (bA BK101.out)) : gb101 ≠ gb118)); have n7_ := am ((by rw [hg]; exact Nat.ne_of_gt (blk_lt (g := gb101) (o := .cells #[.slice A0_0 l0_0.length c0_0, .int .i64 a0_1] 24 (0, 0)) (bA BK101.out)) : gb118 ≠ gb101)); have n8_ := am ((by rw [hg]; exact Nat.ne_of_lt (blk_lt (g := gb102) (o := .cells #[.slice A1_0 l1_0.length c1_0, .int .i64 a1_1] 24 (0, 0)) (bA BK102.out)) : gb102 ≠ gb118)); have n9_ := am ((by rw [hg]; exact Nat.ne_of_gt (blk_lt (g := gb102) (o := .cells #[.slice A1_0 l1_0.length c1_0, .int .i64 a1_1] 24 (0, 0)) (bA BK102.out)) : gb118 ≠ gb102)); clear BK101; clear BK102; clear HB; have BK101 := n0_; have BK102 := n1_; have HB := n2_; have BK118 := n3_; have GW118 := n4_; have GE118 := n5_; have NB101_118 := n6_; have NB118_101 := n7_; have NB102_118 := n8_; have NB118_102 := n9_; clear n0_ n1_ n2_ n3_ n4_ n5_ n6_ n7_ n8_ n9_; clear hb hbox hg
     refine hK.out _ _ ⟨(blk_cell BK101.out 0).trans rfl, (blk_cell BK101.out 1).trans rfl, (blk_cell BK102.out 0).trans rfl, (blk_cell BK102.out 1).trans rfl⟩ (fun hHeld => ?_)
     clear hK K
     refine norm_ (a' := ?_) ?_ ?_; rotate_left
     ·show Act.put _ (some 6) _ = _
      simp only [Act.put, qa3, qb3, qc3, i64_w, i32_w]
      rfl
     refine one_ (i := 1) (N := some 29) q3_7 rfl rfl (one_of HT_.out (by kernel_rfl)) (by decide) (fun K hK => ?_)
     refine goes_ Try.func8 (by kernel_rfl) rfl #[.agg #[.slice A0_0 l0_0.length c0_0, .int .i64 a0_1]] (by rfl) rfl rfl bE ?_
     with_reducible refine (laws_toFloating.calls k _ _ l0_0 a0_1 t105 t108 _ ?side1 ?side2 A19.out).mono ?_
     (case side1 => exact bD ((Kd.C_below HR0_0.out HB.out)))
     (case side2 => exact HC0_0.out)
     rintro e w35 ⟨v106, rfl, ho0, hb⟩
     refine ⟨_, rfl, ?_⟩
     have n0_ := am (Kd.R_lower ho0 (below_size (bB HB.out))); have n1_ := am (blk_below (bA BK101.out) hb); have n2_ := am (blk_below (bA BK102.out) hb); have n3_ := am (blk_below (bA BK118.out) hb); have n4_ := am (below_step (bB HB.out) hb); clear BK101; clear BK102; clear BK118; clear HB; have HO107 := n0_; have BK101 := n1_; have BK102 := n2_; have BK118 := n3_; have HB := n4_; clear n0_ n1_ n2_ n3_ n4_; (try clear hb); (try clear hb2); (try clear hk); (try clear hi); (try clear ho0); clear A19
     refine hK.out _ _ ⟨(blk_cell BK101.out 0).trans rfl, (blk_cell BK101.out 1).trans rfl, (blk_cell BK102.out 0).trans rfl, (blk_cell BK102.out 1).trans rfl⟩ (fun hHeld => ?_)
     clear hK K
     refine norm_ (a' := ?_) ?_ ?_; rotate_left
     ·show Act.put _ (some 29) _ = _
      simp only [Act.put, qa3, qb3, qc3, i64_w, i32_w]
      rfl
     refine one_ (i := 3) (N := some 31) q3_9 rfl rfl (one_of HT_.out (by kernel_rfl)) (by decide) (fun K hK => ?_)
     refine goes_ Try.func8 (by kernel_rfl) rfl #[.agg #[.slice A1_0 l1_0.length c1_0, .int .i64 a1_1]] (by rfl) rfl rfl bE ?_
     with_reducible refine (laws_toFloating.calls k _ _ l1_0 a1_1 t109 t112 _ ?side1 ?side2 A20.out).mono ?_
     (case side1 => exact bD ((Kd.C_below HR1_0.out HB.out)))
     (case side2 => exact HC1_0.out)
     rintro e w36 ⟨v110, rfl, ho0, hb⟩
     refine ⟨_, rfl, ?_⟩
     have n0_ := am (Kd.R_elder' (bC HO107.out) (Kd.R_base ho0) hb); have n1_ := am (Kd.R_lower (Kd.R_new' ho0 (Kd.R_lt (bC HO107.out))) (below_size (bB HB.out))); have n2_ := am (blk_below (bA BK101.out) hb); have n3_ := am (blk_below (bA BK102.out) hb); have n4_ := am (blk_below (bA BK118.out) hb); have n5_ := am (below_step (bB HB.out) hb); clear HO107; clear BK101; clear BK102; clear BK118; clear HB; have HO107 := n0_; have HO111 := n1_; have BK101 := n2_; have BK102 := n3_; have BK118 := n4_; have HB := n5_; clear n0_ n1_ n2_ n3_ n4_ n5_; (try clear hb); (try clear hb2); (try clear hk); (try clear hi); (try clear ho0); clear A20
     obtain ⟨Ao37, co37, eo37⟩ := Kd.R_slice HO107.out
     (first | subst eo37 | (injection eo37 with f1_ f2_ f3_; have f4_ := f1_.symm; have f5_ := f3_.symm; clear f1_ f2_ f3_; subst f4_; subst f5_))
     obtain ⟨Ao38, co38, eo38⟩ := Kd.R_slice HO111.out
     (first | subst eo38 | (injection eo38 with f1_ f2_ f3_; have f4_ := f1_.symm; have f5_ := f3_.symm; clear f1_ f2_ f3_; subst f4_; subst f5_))
     refine hK.out _ _ ⟨(blk_cell BK101.out 0).trans rfl, (blk_cell BK101.out 1).trans rfl, (blk_cell BK102.out 0).trans rfl, (blk_cell BK102.out 1).trans rfl⟩ (fun hHeld => ?_)
     clear hK K
     refine norm_ (a' := ?_) ?_ ?_; rotate_left
     ·show Act.put _ (some 31) _ = _
      simp only [Act.put, qa3, qb3, qc3, i64_w, i32_w]
      rfl
     refine one_ (i := 4) (N := some 32) q3_13 rfl rfl (one_of HT_.out (by kernel_rfl)) (by decide) (fun K hK => ?_)
     refine goes_ Try.func7 (by kernel_rfl) rfl #[.agg #[.slice Ao37 t105.length co37, .int .i64 t108], .agg #[.slice Ao38 t109.length co38, .int .i64 t112]] (by rfl) rfl rfl bE ?_
     with_reducible refine (spec_DivFloats.calls k _ _ t105 t108 _ _ t109 t112 t113 t116 t117 _ ?side1 ?side2 ?side3 ?side4 A21.out).mono ?_
     (case side1 => exact bD ((Kd.R_reads' HO107.out).2.2))
     (case side2 => exact (Kd.R_reads' HO107.out).2.1)
     (case side3 => exact bD ((Kd.R_reads' HO111.out).2.2))
     (case side4 => exact (Kd.R_reads' HO111.out).2.1)
     rintro e w39 ⟨v114, rfl, ho0, hb⟩
     refine ⟨_, rfl, ?_⟩
     have n0_ := am (Kd.R_elder' (bC HO107.out) (Kd.R_base ho0) hb); have n1_ := am (Kd.R_elder' (bC HO111.out) (Kd.R_base ho0) hb); have n2_ := am (Kd.R_lower (Kd.R_new' (Kd.R_new' ho0 (Kd.R_lt (bC HO107.out))) (Kd.R_lt (bC HO111.out))) (below_size (bB HB.out))); have n3_ := am (blk_below (bA BK101.out) hb); have n4_ := am (blk_below (bA BK102.out) hb); have n5_ := am (blk_below (bA BK118.out) hb); have n6_ := am (below_step (bB HB.out) hb); clear HO107; clear HO111; clear BK101; clear BK102; clear BK118; clear HB; have HO107 := n0_; have HO111 := n1_; have HO115 := n2_; have BK101 := n3_; have BK102 := n4_; have BK118 := n5_; have HB := n6_; clear n0_ n1_ n2_ n3_ n4_ n5_ n6_; (try clear hb); (try clear hb2); (try clear hk); (try clear hi); (try clear ho0)
     refine hK.out _ _ ⟨(blk_cell BK101.out 0).trans rfl, (blk_cell BK101.out 1).trans rfl, (blk_cell BK102.out 0).trans rfl, (blk_cell BK102.out 1).trans rfl⟩ (fun hHeld => ?_)
     clear hK K
     refine norm_ (a' := ?_) ?_ ?_; rotate_left
     ·show Act.put _ (some 32) _ = _
      simp only [Act.put, qa3, qb3, qc3, i64_w, i32_w]
      rfl
     refine pure_ (i := 5) (N := some 27) (v := ?_) (a' := ?_) q3_14 rfl rfl (any_of HT_.out (by kernel_rfl)) (fun _ _ _ h => h) (Or.inl ⟨by rfl, ?_⟩) ?_ ?_; rotate_left
     ·intro w'
      go_simp; with_reducible rfl
     rotate_left
     ·simp only [Act.put, qa3, qb3, qc3, i64_w, i32_w]
      rfl
     refine pure_ (i := 6) (N := some 33) (v := ?_) (a' := ?_) q3_15 rfl rfl (any_of HT_.out (by kernel_rfl)) (fun _ _ _ h => h) (Or.inl ⟨by rfl, ?_⟩) ?_ ?_; rotate_left
     ·intro w'
      go_simp; with_reducible rfl
     rotate_left
     ·simp only [Act.put, qa3, qb3, qc3, i64_w, i32_w]
      rfl
     refine pure_ (i := 7) (N := some 34) (v := ?_) (a' := ?_) q3_3 rfl rfl (any_of HT_.out (by kernel_rfl)) (fun _ _ _ h => h) (Or.inl ⟨by rfl, ?_⟩) ?_ ?_; rotate_left
     ·intro w'
      go_simp; with_reducible rfl
     rotate_left
     ·simp only [Act.put, qa3, qb3, qc3, i64_w, i32_w]
      rfl
     exact norm_ (by simp only [putAll, Act.put, qa3, qb3, qc3]) (hCont (.slice Ao37 t105.length co37, .slice Ao38 t109.length co38, v114, gb118) _ ⟨hHeld, (bC (Kd.R_mono HO107.out (fun _ hk => ⟨hk.1.2, hk.2⟩))), (bC (Kd.R_mono HO111.out (fun _ hk => ⟨hk.1.2, hk.2⟩))), (bC (Kd.R_mono HO115.out (fun _ hk => ⟨hk.1.2, hk.2⟩))), (bA BK101.out), (bA BK102.out), (bA BK118.out), GW118.out, GE118.out, NB101_118.out, NB118_101.out, NB102_118.out, NB118_102.out, (bB HB.out)⟩)
   rintro ⟨v106, v110, v114, gb118⟩ w40 ⟨hS_, h0_, h1_, h2_, h3_, h4_, h5_, h6_, h7_, h8_, h9_, h10_, h11_, h12_⟩
   have n0_ : Aside0 (Kd.R (Kd.int .i64) 3 w40 w.heap.size (fun k_ => some k_ ≠ (v110 : Value).ownBlock ∧ some k_ ≠ (v114 : Value).ownBlock) v106 t105) := ⟨h0_⟩
   have n1_ : Aside0 (Kd.R (Kd.int .i64) 3 w40 w.heap.size (fun k_ => some k_ ≠ (v106 : Value).ownBlock ∧ some k_ ≠ (v114 : Value).ownBlock) v110 t109) := ⟨h1_⟩
   have n2_ : Aside0 (Kd.R (Kd.int .i64) 3 w40 w.heap.size (fun k_ => some k_ ≠ (v106 : Value).ownBlock ∧ some k_ ≠ (v110 : Value).ownBlock) v114 t113) := ⟨h2_⟩
   have n3_ : Aside0 (w40.heap[gb101]? = some (.cells #[.slice A0_0 l0_0.length c0_0, .int .i64 a0_1] 24 (0, 0))) := ⟨h3_⟩
   have n4_ : Aside0 (w40.heap[gb102]? = some (.cells #[.slice A1_0 l1_0.length c1_0, .int .i64 a1_1] 24 (0, 0))) := ⟨h4_⟩
   have n5_ : Aside0 (w40.heap[gb118]? = some (.cells #[.slice none 0 0, .int .i64 0] 26 (0, 0))) := ⟨h5_⟩
   have n6_ : Aside0 (w.heap.size ≤ gb118) := ⟨h6_⟩
   have n7_ : Aside0 (w.heap.size ≤ gb118) := ⟨h7_⟩
   have n8_ : Aside0 (gb101 ≠ gb118) := ⟨h8_⟩
   have n9_ : Aside0 (gb118 ≠ gb101) := ⟨h9_⟩
   have n10_ : Aside0 (gb102 ≠ gb118) := ⟨h10_⟩
   have n11_ : Aside0 (gb118 ≠ gb102) := ⟨h11_⟩
   have n12_ : Aside0 (Below w.heap.size w w40) := ⟨h12_⟩
   clear BK101; clear BK102; clear HB; clear h0_ h1_ h2_ h3_ h4_ h5_ h6_ h7_ h8_ h9_ h10_ h11_ h12_; have HO107 := n0_; have HO111 := n1_; have HO115 := n2_; have BK101 := n3_; have BK102 := n4_; have BK118 := n5_; have GW118 := n6_; have GE118 := n7_; have NB101_118 := n8_; have NB118_101 := n9_; have NB102_118 := n10_; have NB118_102 := n11_; have HB := n12_; clear n0_ n1_ n2_ n3_ n4_ n5_ n6_ n7_ n8_ n9_ n10_ n11_ n12_
   have hHeld : w40.cell? ⟨gb101, 0, none⟩ = some (.slice A0_0 l0_0.length c0_0) ∧ w40.cell? ⟨gb101, 1, none⟩ = some (.int .i64 a0_1) ∧ w40.cell? ⟨gb102, 0, none⟩ = some (.slice A1_0 l1_0.length c1_0) ∧ w40.cell? ⟨gb102, 1, none⟩ = some (.int .i64 a1_1) := hS_
   obtain ⟨Ao41, co41, eo41⟩ := Kd.R_slice HO115.out
   (first | subst eo41 | (injection eo41 with f1_ f2_ f3_; have f4_ := f1_.symm; have f5_ := f3_.symm; clear f1_ f2_ f3_; subst f4_; subst f5_))
   refine norm_ (a' := ?_) ?_ ?_; rotate_left
   ·simp only [putAll, Act.put, qa3, qb3, qc3]
    rfl
   refine one_ (i := 9) (N := none) q3_16 rfl rfl (one_of HT_.out (by kernel_rfl)) (by decide) (fun K hK => ?_)
   have hs42 : w40.cell? ⟨gb118, 0, none⟩ = some (.slice none 0 0) := (blk_cell BK118.out 0).trans rfl
   have hfs42 := blk_frozen BK118.out 0; have hns42_0 := NB101_118.out; have hns42_1 := NB102_118.out; have hms42_0 := NB118_101.out; have hms42_1 := NB118_102.out
   have hs43 : w40.cell? ⟨gb118, 1, none⟩ = some (.int .i64 0) := (blk_cell BK118.out 1).trans rfl
   have hfs43 := blk_frozen BK118.out 1; have hns43_0 := NB101_118.out; have hns43_1 := NB102_118.out; have hms43_0 := NB118_101.out; have hms43_1 := NB118_102.out
   refine skip_ (w1 := ?_) (by rfl) rfl ?_ ?_; rotate_left
   ·go_simp
    rfl
   refine hK.out _ _ ⟨((cell_far (p := ⟨gb118, _, none⟩) NB101_118.out _).trans (((cell_far (p := ⟨gb118, _, none⟩) NB101_118.out _).trans (hHeld.1)))), ((cell_far (p := ⟨gb118, _, none⟩) NB101_118.out _).trans (((cell_far (p := ⟨gb118, _, none⟩) NB101_118.out _).trans (hHeld.2.1)))), ((cell_far (p := ⟨gb118, _, none⟩) NB102_118.out _).trans (((cell_far (p := ⟨gb118, _, none⟩) NB102_118.out _).trans (hHeld.2.2.1)))), ((cell_far (p := ⟨gb118, _, none⟩) NB102_118.out _).trans (((cell_far (p := ⟨gb118, _, none⟩) NB102_118.out _).trans (hHeld.2.2.2))))⟩ (fun hHeld => ?_)
   clear hK K
   refine pure_ (i := 10) (N := some 7) (v := ?_) (a' := ?_) q3_17 rfl rfl (any_of HT_.out (by kernel_rfl)) (fun _ _ _ h => h) (Or.inl ⟨by rfl, ?_⟩) ?_ ?_; rotate_left
   ·intro w'
    go_simp; with_reducible rfl
   rotate_left
   ·simp only [Act.put, qa3, qb3, qc3, i64_w, i32_w]
    rfl
   refine done_ (done_of HT_.out (by kernel_rfl)) ?_
   have hnb44 := NB101_118.out; have hnc44 := NB118_101.out
   have hcz45_0 : w40.cell? ⟨gb101, 0, none⟩ = some (.slice A0_0 l0_0.length c0_0) := (blk_cell BK101.out 0).trans rfl
   have hcz45_1 : w40.cell? ⟨gb101, 1, none⟩ = some (.int .i64 a0_1) := (blk_cell BK101.out 1).trans rfl
   have hfz45_0 := blk_frozen BK101.out 0; have hfz45_1 := blk_frozen BK101.out 1
   go_upto_region 12 with (first | ((with_reducible refine gate_callee (f := 8) rfl ?_); refine goesL_ (some 36) rfl rfl Try.func8 (by kernel_rfl) rfl #[.agg #[.slice A0_0 l0_0.length c0_0, .int .i64 a0_1]] rfl bE ?_; (with_reducible refine (laws_toFloating.calls k _ _ l0_0 a0_1 t119 t122 _ ?side1 ?side2 A22.out).mono ?_); (case side1 => exact Kd.C_below HR0_0.out (bB HB.out)); (case side2 => exact HC0_0.out); rintro e w46 ⟨v120, rfl, ho0, hb⟩; refine ⟨_, rfl, ?_⟩; have n0_ := am (Kd.R_elder' (bC ((Kd.R_mono (Kd.R_far (p := ⟨gb118, 1, none⟩) (Kd.R_far (p := ⟨gb118, 0, none⟩) (Kd.R_types HO107.out BK118.out (by decide)) (fun _ hk => hk.2) (.slice Ao41 t113.length co41)) (fun _ hk => hk.2) (.int .i64 t116)) (fun _ h_ => h_.1)))) (Kd.R_base ho0) hb); have n1_ := am (Kd.R_elder' (bC ((Kd.R_mono (Kd.R_far (p := ⟨gb118, 1, none⟩) (Kd.R_far (p := ⟨gb118, 0, none⟩) (Kd.R_types HO111.out BK118.out (by decide)) (fun _ hk => hk.2) (.slice Ao41 t113.length co41)) (fun _ hk => hk.2) (.int .i64 t116)) (fun _ h_ => h_.1)))) (Kd.R_base ho0) hb); have n2_ := am (Kd.R_elder' (bC ((Kd.R_mono (Kd.R_far (p := ⟨gb118, 1, none⟩) (Kd.R_far (p := ⟨gb118, 0, none⟩) (Kd.R_types HO115.out BK118.out (by decide)) (fun _ hk => hk.2) (.slice Ao41 t113.length co41)) (fun _ hk => hk.2) (.int .i64 t116)) (fun _ h_ => h_.1)))) (Kd.R_base ho0) hb); have n3_ := am (Kd.R_lower (Kd.R_new' (Kd.R_new' (Kd.R_new' ho0 (Kd.R_lt (bC ((Kd.R_mono (Kd.R_far (p := ⟨gb118, 1, none⟩) (Kd.R_far (p := ⟨gb118, 0, none⟩) (Kd.R_types HO107.out BK118.out (by decide)) (fun _ hk => hk.2) (.slice Ao41 t113.length co41)) (fun _ hk => hk.2) (.int .i64 t116)) (fun _ h_ => h_.1)))))) (Kd.R_lt (bC ((Kd.R_mono (Kd.R_far (p := ⟨gb118, 1, none⟩) (Kd.R_far (p := ⟨gb118, 0, none⟩) (Kd.R_types HO111.out BK118.out (by decide)) (fun _ hk => hk.2) (.slice Ao41 t113.length co41)) (fun _ hk => hk.2) (.int .i64 t116)) (fun _ h_ => h_.1)))))) (Kd.R_lt (bC ((Kd.R_mono (Kd.R_far (p := ⟨gb118, 1, none⟩) (Kd.R_far (p := ⟨gb118, 0, none⟩) (Kd.R_types HO115.out BK118.out (by decide)) (fun _ hk => hk.2) (.slice Ao41 t113.length co41)) (fun _ hk => hk.2) (.int .i64 t116)) (fun _ h_ => h_.1)))))) (below_size (bB HB.out))); have n4_ := am (blk_below (g := gb101) (o := .cells #[.slice A0_0 l0_0.length c0_0, .int .i64 a0_1] 24 (0, 0)) (by (with_reducible repeat (first | refine blk_drewN ?_ _ | refine blk_drew ?_ | refine blk_alloc ?_ _)); refine blk_far ?_ NB101_118.out _; (with_reducible repeat (first | refine blk_drewN ?_ _ | refine blk_drew ?_ | refine blk_alloc ?_ _)); refine blk_far ?_ NB101_118.out _; (with_reducible repeat (first | refine blk_drewN ?_ _ | refine blk_drew ?_ | refine blk_alloc ?_ _)); exact BK101.out) hb); have n5_ := am (blk_below (g := gb102) (o := .cells #[.slice A1_0 l1_0.length c1_0, .int .i64 a1_1] 24 (0, 0)) (by (with_reducible repeat (first | refine blk_drewN ?_ _ | refine blk_drew ?_ | refine blk_alloc ?_ _)); refine blk_far ?_ NB102_118.out _; (with_reducible repeat (first | refine blk_drewN ?_ _ | refine blk_drew ?_ | refine blk_alloc ?_ _)); refine blk_far ?_ NB102_118.out _; (with_reducible repeat (first | refine blk_drewN ?_ _ | refine blk_drew ?_ | refine blk_alloc ?_ _)); exact BK102.out) hb); have n6_ := am (blk_below (g := gb118) (o := .cells #[.slice Ao41 t113.length co41, .int .i64 t116] 26 (0, 0)) (by (with_reducible repeat (first | refine blk_drewN ?_ _ | refine blk_drew ?_ | refine blk_alloc ?_ _)); refine blk_put (cs := #[.slice Ao41 t113.length co41, .int .i64 0]) ?_ 1 _ rfl; (with_reducible repeat (first | refine blk_drewN ?_ _ | refine blk_drew ?_ | refine blk_alloc ?_ _)); refine blk_put (cs := #[.slice none 0 0, .int .i64 0]) ?_ 0 _ rfl; (with_reducible repeat (first | refine blk_drewN ?_ _ | refine blk_drew ?_ | refine blk_alloc ?_ _)); exact BK118.out) hb); have n7_ := am (below_step (bB HB.out) hb); clear HO107; clear HO111; clear HO115; clear BK101; clear BK102; clear BK118; clear HB; have HO107 := n0_; have HO111 := n1_; have HO115 := n2_; have HO121 := n3_; have BK101 := n4_; have BK102 := n5_; have BK118 := n6_; have HB := n7_; clear n0_ n1_ n2_ n3_ n4_ n5_ n6_ n7_; (try clear hb); (try clear hb2); (try clear hk); (try clear hi); (try clear ho0); clear A22) | ((with_reducible refine gate_dst (N := 8) rfl ?_); refine box_event ?hg (N := 8) ?hd (cs := #[.slice none 0 0, .int .i64 0]) (t := 26) ?hr ?_; (case hd => rfl); (case hg => rfl); (case hr => first | (go_simp; done) | (go_simp; rfl)); intro gb123 hg w47 hbox hb; have n0_ := am (Kd.R_below (bC HO107.out) hb); have n1_ := am (Kd.R_below (bC HO111.out) hb); have n2_ := am (Kd.R_below (bC HO115.out) hb); have n3_ := am (Kd.R_below (bC HO121.out) hb); have n4_ := am (blk_below (bA BK101.out) hb); have n5_ := am (blk_below (bA BK102.out) hb); have n6_ := am (blk_below (bA BK118.out) hb); have n7_ := am (below_step (bB HB.out) hb); have n8_ := am (hbox); have n9_ := am ((by rw [hg]; exact (below_size (bB HB.out)) : w.heap.size ≤ gb123)); have n10_ := am ((by rw [hg]; exact (below_size (bB HB.out)) : w.heap.size ≤ gb123)); have n11_ := am ((by rw [hg]; exact Nat.ne_of_lt (blk_lt (g := gb101) (o := .cells #[.slice A0_0 l0_0.length c0_0, .int .i64 a0_1] 24 (0, 0)) (bA BK101.out)) : gb101 ≠ gb123)); have n12_ := am ((by rw [hg]; exact Nat.ne_of_gt (blk_lt (g := gb101) (o := .cells #[.slice A0_0 l0_0.length c0_0, .int .i64 a0_1] 24 (0, 0)) (bA BK101.out)) : gb123 ≠ gb101)); have n13_ := am ((by rw [hg]; exact Nat.ne_of_lt (blk_lt (g := gb102) (o := .cells #[.slice A1_0 l1_0.length c1_0, .int .i64 a1_1] 24 (0, 0)) (bA BK102.out)) : gb102 ≠ gb123)); have n14_ := am ((by rw [hg]; exact Nat.ne_of_gt (blk_lt (g := gb102) (o := .cells #[.slice A1_0 l1_0.length c1_0, .int .i64 a1_1] 24 (0, 0)) (bA BK102.out)) : gb123 ≠ gb102)); have n15_ := am ((by rw [hg]; exact Nat.ne_of_lt (blk_lt (g := gb118) (o := .cells #[.slice Ao41 t113.length co41, .int .i64 t116] 26 (0, 0)) (bA BK118.out)) : gb118 ≠ gb123)); have n16_ := am ((by rw [hg]; exact Nat.ne_of_gt (blk_lt (g := gb118) (o := .cells #[.slice Ao41 t113.length co41, .int .i64 t116] 26 (0, 0)) (bA BK118.out)) : gb123 ≠ gb118)); clear HO107; clear HO111; clear HO115; clear HO121; clear BK101; clear BK102; clear BK118; clear HB; have HO107 := n0_; have HO111 := n1_; have HO115 := n2_; have HO121 := n3_; have BK101 := n4_; have BK102 := n5_; have BK118 := n6_; have HB := n7_; have BK123 := n8_; have GW123 := n9_; have GE123 := n10_; have NB101_123 := n11_; have NB123_101 := n12_; have NB102_123 := n13_; have NB123_102 := n14_; have NB118_123 := n15_; have NB123_118 := n16_; clear n0_ n1_ n2_ n3_ n4_ n5_ n6_ n7_ n8_ n9_ n10_ n11_ n12_ n13_ n14_ n15_ n16_; clear hb hbox hg; obtain ⟨Ao48, co48, eo48⟩ := Kd.R_slice HO121.out; subst eo48; have hnb49 := NB123_101.out; have hnc49 := NB101_123.out; have hnb50 := NB123_102.out; have hnc50 := NB102_123.out; have hnb51 := NB123_118.out; have hnc51 := NB118_123.out; have hcz52_0 : w47.cell? ⟨gb123, 0, none⟩ = some (.slice none 0 0) := (blk_cell BK123.out 0).trans rfl; have hcz52_1 : w47.cell? ⟨gb123, 1, none⟩ = some (.int .i64 0) := (blk_cell BK123.out 1).trans rfl; have hfz52_0 := blk_frozen BK123.out 0; have hfz52_1 := blk_frozen BK123.out 1; have hnb53 := NB102_118.out; have hnc53 := NB118_102.out; have hcz54_0 : w47.cell? ⟨gb102, 0, none⟩ = some (.slice A1_0 l1_0.length c1_0) := (blk_cell BK102.out 0).trans rfl; have hcz54_1 : w47.cell? ⟨gb102, 1, none⟩ = some (.int .i64 a1_1) := (blk_cell BK102.out 1).trans rfl; have hfz54_0 := blk_frozen BK102.out 0; have hfz54_1 := blk_frozen BK102.out 1) | ((with_reducible refine gate_callee (f := 8) rfl ?_); refine goesL_ (some 38) rfl rfl Try.func8 (by kernel_rfl) rfl #[.agg #[.slice A1_0 l1_0.length c1_0, .int .i64 a1_1]] rfl bE ?_; (with_reducible refine (laws_toFloating.calls k _ _ l1_0 a1_1 t124 t127 _ ?side1 ?side2 A23.out).mono ?_); (case side1 => exact Kd.C_below HR1_0.out (bB HB.out)); (case side2 => exact HC1_0.out); rintro e w55 ⟨v125, rfl, ho0, hb⟩; refine ⟨_, rfl, ?_⟩; have n0_ := am (Kd.R_elder' (bC ((Kd.R_mono (Kd.R_far (p := ⟨gb123, 1, none⟩) (Kd.R_far (p := ⟨gb123, 0, none⟩) (Kd.R_types HO107.out BK123.out (by decide)) (fun _ hk => hk.2) (.slice Ao48 t119.length co48)) (fun _ hk => hk.2) (.int .i64 t122)) (fun _ h_ => h_.1)))) (Kd.R_base ho0) hb); have n1_ := am (Kd.R_elder' (bC ((Kd.R_mono (Kd.R_far (p := ⟨gb123, 1, none⟩) (Kd.R_far (p := ⟨gb123, 0, none⟩) (Kd.R_types HO111.out BK123.out (by decide)) (fun _ hk => hk.2) (.slice Ao48 t119.length co48)) (fun _ hk => hk.2) (.int .i64 t122)) (fun _ h_ => h_.1)))) (Kd.R_base ho0) hb); have n2_ := am (Kd.R_elder' (bC ((Kd.R_mono (Kd.R_far (p := ⟨gb123, 1, none⟩) (Kd.R_far (p := ⟨gb123, 0, none⟩) (Kd.R_types HO115.out BK123.out (by decide)) (fun _ hk => hk.2) (.slice Ao48 t119.length co48)) (fun _ hk => hk.2) (.int .i64 t122)) (fun _ h_ => h_.1)))) (Kd.R_base ho0) hb); have n3_ := am (Kd.R_elder' (bC ((Kd.R_mono (Kd.R_far (p := ⟨gb123, 1, none⟩) (Kd.R_far (p := ⟨gb123, 0, none⟩) (Kd.R_types HO121.out BK123.out (by decide)) (fun _ hk => hk.2) (.slice Ao48 t119.length co48)) (fun _ hk => hk.2) (.int .i64 t122)) (fun _ h_ => h_.1)))) (Kd.R_base ho0) hb); have n4_ := am (Kd.R_lower (Kd.R_new' (Kd.R_new' (Kd.R_new' (Kd.R_new' ho0 (Kd.R_lt (bC ((Kd.R_mono (Kd.R_far (p := ⟨gb123, 1, none⟩) (Kd.R_far (p := ⟨gb123, 0, none⟩) (Kd.R_types HO107.out BK123.out (by decide)) (fun _ hk => hk.2) (.slice Ao48 t119.length co48)) (fun _ hk => hk.2) (.int .i64 t122)) (fun _ h_ => h_.1)))))) (Kd.R_lt (bC ((Kd.R_mono (Kd.R_far (p := ⟨gb123, 1, none⟩) (Kd.R_far (p := ⟨gb123, 0, none⟩) (Kd.R_types HO111.out BK123.out (by decide)) (fun _ hk => hk.2) (.slice Ao48 t119.length co48)) (fun _ hk => hk.2) (.int .i64 t122)) (fun _ h_ => h_.1)))))) (Kd.R_lt (bC ((Kd.R_mono (Kd.R_far (p := ⟨gb123, 1, none⟩) (Kd.R_far (p := ⟨gb123, 0, none⟩) (Kd.R_types HO115.out BK123.out (by decide)) (fun _ hk => hk.2) (.slice Ao48 t119.length co48)) (fun _ hk => hk.2) (.int .i64 t122)) (fun _ h_ => h_.1)))))) (Kd.R_lt (bC ((Kd.R_mono (Kd.R_far (p := ⟨gb123, 1, none⟩) (Kd.R_far (p := ⟨gb123, 0, none⟩) (Kd.R_types HO121.out BK123.out (by decide)) (fun _ hk => hk.2) (.slice Ao48 t119.length co48)) (fun _ hk => hk.2) (.int .i64 t122)) (fun _ h_ => h_.1)))))) (below_size (bB HB.out))); have n5_ := am (blk_below (g := gb101) (o := .cells #[.slice A0_0 l0_0.length c0_0, .int .i64 a0_1] 24 (0, 0)) (by (with_reducible repeat (first | refine blk_drewN ?_ _ | refine blk_drew ?_ | refine blk_alloc ?_ _)); refine blk_far ?_ NB101_123.out _; (with_reducible repeat (first | refine blk_drewN ?_ _ | refine blk_drew ?_ | refine blk_alloc ?_ _)); refine blk_far ?_ NB101_123.out _; (with_reducible repeat (first | refine blk_drewN ?_ _ | refine blk_drew ?_ | refine blk_alloc ?_ _)); exact BK101.out) hb); have n6_ := am (blk_below (g := gb102) (o := .cells #[.slice A1_0 l1_0.length c1_0, .int .i64 a1_1] 24 (0, 0)) (by (with_reducible repeat (first | refine blk_drewN ?_ _ | refine blk_drew ?_ | refine blk_alloc ?_ _)); refine blk_far ?_ NB102_123.out _; (with_reducible repeat (first | refine blk_drewN ?_ _ | refine blk_drew ?_ | refine blk_alloc ?_ _)); refine blk_far ?_ NB102_123.out _; (with_reducible repeat (first | refine blk_drewN ?_ _ | refine blk_drew ?_ | refine blk_alloc ?_ _)); exact BK102.out) hb); have n7_ := am (blk_below (g := gb118) (o := .cells #[.slice Ao41 t113.length co41, .int .i64 t116] 26 (0, 0)) (by (with_reducible repeat (first | refine blk_drewN ?_ _ | refine blk_drew ?_ | refine blk_alloc ?_ _)); refine blk_far ?_ NB118_123.out _; (with_reducible repeat (first | refine blk_drewN ?_ _ | refine blk_drew ?_ | refine blk_alloc ?_ _)); refine blk_far ?_ NB118_123.out _; (with_reducible repeat (first | refine blk_drewN ?_ _ | refine blk_drew ?_ | refine blk_alloc ?_ _)); exact BK118.out) hb); have n8_ := am (blk_below (g := gb123) (o := .cells #[.slice Ao48 t119.length co48, .int .i64 t122] 26 (0, 0)) (by (with_reducible repeat (first | refine blk_drewN ?_ _ | refine blk_drew ?_ | refine blk_alloc ?_ _)); refine blk_put (cs := #[.slice Ao48 t119.length co48, .int .i64 0]) ?_ 1 _ rfl; (with_reducible repeat (first | refine blk_drewN ?_ _ | refine blk_drew ?_ | refine blk_alloc ?_ _)); refine blk_put (cs := #[.slice none 0 0, .int .i64 0]) ?_ 0 _ rfl; (with_reducible repeat (first | refine blk_drewN ?_ _ | refine blk_drew ?_ | refine blk_alloc ?_ _)); exact BK123.out) hb); have n9_ := am (below_step (bB HB.out) hb); clear HO107; clear HO111; clear HO115; clear HO121; clear BK101; clear BK102; clear BK118; clear BK123; clear HB; have HO107 := n0_; have HO111 := n1_; have HO115 := n2_; have HO121 := n3_; have HO126 := n4_; have BK101 := n5_; have BK102 := n6_; have BK118 := n7_; have BK123 := n8_; have HB := n9_; clear n0_ n1_ n2_ n3_ n4_ n5_ n6_ n7_ n8_ n9_; (try clear hb); (try clear hb2); (try clear hk); (try clear hi); (try clear ho0); clear A23) | ((with_reducible refine gate_dst (N := 9) rfl ?_); refine box_event ?hg (N := 9) ?hd (cs := #[.slice none 0 0, .int .i64 0]) (t := 26) ?hr ?_; (case hd => rfl); (case hg => rfl); (case hr => first | (go_simp; done) | (go_simp; rfl)); intro gb128 hg w56 hbox hb; have n0_ := am (Kd.R_below (bC HO107.out) hb); have n1_ := am (Kd.R_below (bC HO111.out) hb); have n2_ := am (Kd.R_below (bC HO115.out) hb); have n3_ := am (Kd.R_below (bC HO121.out) hb); have n4_ := am (Kd.R_below (bC HO126.out) hb); have n5_ := am (blk_below (bA BK101.out) hb); have n6_ := am (blk_below (bA BK102.out) hb); have n7_ := am (blk_below (bA BK118.out) hb); have n8_ := am (blk_below (bA BK123.out) hb); have n9_ := am (below_step (bB HB.out) hb); have n10_ := am (hbox); have n11_ := am ((by rw [hg]; exact (below_size (bB HB.out)) : w.heap.size ≤ gb128)); have n12_ := am ((by rw [hg]; exact (below_size (bB HB.out)) : w.heap.size ≤ gb128)); have n13_ := am ((by rw [hg]; exact Nat.ne_of_lt (blk_lt (g := gb101) (o := .cells #[.slice A0_0 l0_0.length c0_0, .int .i64 a0_1] 24 (0, 0)) (bA BK101.out)) : gb101 ≠ gb128)); have n14_ := am ((by rw [hg]; exact Nat.ne_of_gt (blk_lt (g := gb101) (o := .cells #[.slice A0_0 l0_0.length c0_0, .int .i64 a0_1] 24 (0, 0)) (bA BK101.out)) : gb128 ≠ gb101)); have n15_ := am ((by rw [hg]; exact Nat.ne_of_lt (blk_lt (g := gb102) (o := .cells #[.slice A1_0 l1_0.length c1_0, .int .i64 a1_1] 24 (0, 0)) (bA BK102.out)) : gb102 ≠ gb128)); have n16_ := am ((by rw [hg]; exact Nat.ne_of_gt (blk_lt (g := gb102) (o := .cells #[.slice A1_0 l1_0.length c1_0, .int .i64 a1_1] 24 (0, 0)) (bA BK102.out)) : gb128 ≠ gb102)); have n17_ := am ((by rw [hg]; exact Nat.ne_of_lt (blk_lt (g := gb118) (o := .cells #[.slice Ao41 t113.length co41, .int .i64 t116] 26 (0, 0)) (bA BK118.out)) : gb118 ≠ gb128)); have n18_ := am ((by rw [hg]; exact Nat.ne_of_gt (blk_lt (g := gb118) (o := .cells #[.slice Ao41 t113.length co41, .int .i64 t116] 26 (0, 0)) (bA BK118.out)) : gb128 ≠ gb118)); have n19_ := am ((by rw [hg]; exact Nat.ne_of_lt (blk_lt (g := gb123) (o := .cells #[.slice Ao48 t119.length co48, .int .i64 t122] 26 (0, 0)) (bA BK123.out)) : gb123 ≠ gb128)); have n20_ := am ((by rw [hg]; exact Nat.ne_of_gt (blk_lt (g := gb123) (o := .cells #[.slice Ao48 t119.length co48, .int .i64 t122] 26 (0, 0)) (bA BK123.out)) : gb128 ≠ gb123)); clear HO107; clear HO111; clear HO115; clear HO121; clear HO126; clear BK101; clear BK102; clear BK118; clear BK123; clear HB; have HO107 := n0_; have HO111 := n1_; have HO115 := n2_; have HO121 := n3_; have HO126 := n4_; have BK101 := n5_; have BK102 := n6_; have BK118 := n7_; have BK123 := n8_; have HB := n9_; have BK128 := n10_; have GW128 := n11_; have GE128 := n12_; have NB101_128 := n13_; have NB128_101 := n14_; have NB102_128 := n15_; have NB128_102 := n16_; have NB118_128 := n17_; have NB128_118 := n18_; have NB123_128 := n19_; have NB128_123 := n20_; clear n0_ n1_ n2_ n3_ n4_ n5_ n6_ n7_ n8_ n9_ n10_ n11_ n12_ n13_ n14_ n15_ n16_ n17_ n18_ n19_ n20_; clear hb hbox hg; obtain ⟨Ao57, co57, eo57⟩ := Kd.R_slice HO126.out; subst eo57; have hnb58 := NB128_101.out; have hnc58 := NB101_128.out; have hnb59 := NB128_102.out; have hnc59 := NB102_128.out; have hnb60 := NB128_118.out; have hnc60 := NB118_128.out; have hnb61 := NB128_123.out; have hnc61 := NB123_128.out; have hcz62_0 : w56.cell? ⟨gb128, 0, none⟩ = some (.slice none 0 0) := (blk_cell BK128.out 0).trans rfl; have hcz62_1 : w56.cell? ⟨gb128, 1, none⟩ = some (.int .i64 0) := (blk_cell BK128.out 1).trans rfl; have hfz62_0 := blk_frozen BK128.out 0; have hfz62_1 := blk_frozen BK128.out 1; have hcz63_0 : w56.cell? ⟨gb123, 0, none⟩ = some (.slice Ao48 t119.length co48) := (blk_cell BK123.out 0).trans rfl; have hcz63_1 : w56.cell? ⟨gb123, 1, none⟩ = some (.int .i64 t122) := (blk_cell BK123.out 1).trans rfl; have hfz63_0 := blk_frozen BK123.out 0; have hfz63_1 := blk_frozen BK123.out 1) | ((with_reducible refine gate_callee (f := 9) rfl ?_); refine goesL_ (some 42) rfl rfl Try.func9 (by kernel_rfl) rfl #[.agg #[.slice Ao48 t119.length co48, .int .i64 t122], .agg #[.slice Ao57 t124.length co57, .int .i64 t127]] rfl bE ?_; (with_reducible refine (impl_DivFloats.calls k _ _ t119 t122 _ _ t124 t127 t129 t132 t133 _ ?side1 ?side2 ?side3 ?side4 A24.out).mono ?_); (case side1 => refine (Kd.R_reads' (e := 3) (base := w.heap.size) (ok := fun k_ => ((((True ∧ some k_ ≠ (v106 : Value).ownBlock) ∧ some k_ ≠ (v110 : Value).ownBlock) ∧ some k_ ≠ (.slice Ao41 t113.length co41 : Value).ownBlock) ∧ some k_ ≠ (.slice Ao57 t124.length co57 : Value).ownBlock)) (n := t119.length) (c := co48) ?_).2.2; exact (bC ((Kd.R_mono (Kd.R_far (p := ⟨gb128, 1, none⟩) (Kd.R_far (p := ⟨gb128, 0, none⟩) (Kd.R_types HO121.out BK128.out (by decide)) (fun _ hk => hk.2) (.slice Ao57 t124.length co57)) (fun _ hk => hk.2) (.int .i64 t127)) (fun _ h_ => h_.1))))); (case side2 => exact (Kd.R_reads' HO121.out).2.1); (case side3 => refine (Kd.R_reads' (e := 3) (base := w.heap.size) (ok := fun k_ => ((((True ∧ some k_ ≠ (v106 : Value).ownBlock) ∧ some k_ ≠ (v110 : Value).ownBlock) ∧ some k_ ≠ (.slice Ao41 t113.length co41 : Value).ownBlock) ∧ some k_ ≠ (.slice Ao48 t119.length co48 : Value).ownBlock)) (n := t124.length) (c := co57) ?_).2.2; exact (bC ((Kd.R_mono (Kd.R_far (p := ⟨gb128, 1, none⟩) (Kd.R_far (p := ⟨gb128, 0, none⟩) (Kd.R_types HO126.out BK128.out (by decide)) (fun _ hk => hk.2) (.slice Ao57 t124.length co57)) (fun _ hk => hk.2) (.int .i64 t127)) (fun _ h_ => h_.1))))); (case side4 => exact (Kd.R_reads' HO126.out).2.1); rintro e w64 ⟨v130, rfl, ho0, hb⟩; refine ⟨_, rfl, ?_⟩; have n0_ := am (Kd.R_elder' (bC ((Kd.R_mono (Kd.R_far (p := ⟨gb128, 1, none⟩) (Kd.R_far (p := ⟨gb128, 0, none⟩) (Kd.R_types HO107.out BK128.out (by decide)) (fun _ hk => hk.2) (.slice Ao57 t124.length co57)) (fun _ hk => hk.2) (.int .i64 t127)) (fun _ h_ => h_.1)))) (Kd.R_base ho0) hb); have n1_ := am (Kd.R_elder' (bC ((Kd.R_mono (Kd.R_far (p := ⟨gb128, 1, none⟩) (Kd.R_far (p := ⟨gb128, 0, none⟩) (Kd.R_types HO111.out BK128.out (by decide)) (fun _ hk => hk.2) (.slice Ao57 t124.length co57)) (fun _ hk => hk.2) (.int .i64 t127)) (fun _ h_ => h_.1)))) (Kd.R_base ho0) hb); have n2_ := am (Kd.R_elder' (bC ((Kd.R_mono (Kd.R_far (p := ⟨gb128, 1, none⟩) (Kd.R_far (p := ⟨gb128, 0, none⟩) (Kd.R_types HO115.out BK128.out (by decide)) (fun _ hk => hk.2) (.slice Ao57 t124.length co57)) (fun _ hk => hk.2) (.int .i64 t127)) (fun _ h_ => h_.1)))) (Kd.R_base ho0) hb); have n3_ := am (Kd.R_elder' (bC ((Kd.R_mono (Kd.R_far (p := ⟨gb128, 1, none⟩) (Kd.R_far (p := ⟨gb128, 0, none⟩) (Kd.R_types HO121.out BK128.out (by decide)) (fun _ hk => hk.2) (.slice Ao57 t124.length co57)) (fun _ hk => hk.2) (.int .i64 t127)) (fun _ h_ => h_.1)))) (Kd.R_base ho0) hb); have n4_ := am (Kd.R_elder' (bC ((Kd.R_mono (Kd.R_far (p := ⟨gb128, 1, none⟩) (Kd.R_far (p := ⟨gb128, 0, none⟩) (Kd.R_types HO126.out BK128.out (by decide)) (fun _ hk => hk.2) (.slice Ao57 t124.length co57)) (fun _ hk => hk.2) (.int .i64 t127)) (fun _ h_ => h_.1)))) (Kd.R_base ho0) hb); have n5_ := am (Kd.R_lower (Kd.R_new' (Kd.R_new' (Kd.R_new' (Kd.R_new' (Kd.R_new' ho0 (Kd.R_lt (bC ((Kd.R_mono (Kd.R_far (p := ⟨gb128, 1, none⟩) (Kd.R_far (p := ⟨gb128, 0, none⟩) (Kd.R_types HO107.out BK128.out (by decide)) (fun _ hk => hk.2) (.slice Ao57 t124.length co57)) (fun _ hk => hk.2) (.int .i64 t127)) (fun _ h_ => h_.1)))))) (Kd.R_lt (bC ((Kd.R_mono (Kd.R_far (p := ⟨gb128, 1, none⟩) (Kd.R_far (p := ⟨gb128, 0, none⟩) (Kd.R_types HO111.out BK128.out (by decide)) (fun _ hk => hk.2) (.slice Ao57 t124.length co57)) (fun _ hk => hk.2) (.int .i64 t127)) (fun _ h_ => h_.1)))))) (Kd.R_lt (bC ((Kd.R_mono (Kd.R_far (p := ⟨gb128, 1, none⟩) (Kd.R_far (p := ⟨gb128, 0, none⟩) (Kd.R_types HO115.out BK128.out (by decide)) (fun _ hk => hk.2) (.slice Ao57 t124.length co57)) (fun _ hk => hk.2) (.int .i64 t127)) (fun _ h_ => h_.1)))))) (Kd.R_lt (bC ((Kd.R_mono (Kd.R_far (p := ⟨gb128, 1, none⟩) (Kd.R_far (p := ⟨gb128, 0, none⟩) (Kd.R_types HO121.out BK128.out (by decide)) (fun _ hk => hk.2) (.slice Ao57 t124.length co57)) (fun _ hk => hk.2) (.int .i64 t127)) (fun _ h_ => h_.1)))))) (Kd.R_lt (bC ((Kd.R_mono (Kd.R_far (p := ⟨gb128, 1, none⟩) (Kd.R_far (p := ⟨gb128, 0, none⟩) (Kd.R_types HO126.out BK128.out (by decide)) (fun _ hk => hk.2) (.slice Ao57 t124.length co57)) (fun _ hk => hk.2) (.int .i64 t127)) (fun _ h_ => h_.1)))))) (below_size (bB HB.out))); have n6_ := am (blk_below (g := gb101) (o := .cells #[.slice A0_0 l0_0.length c0_0, .int .i64 a0_1] 24 (0, 0)) (by (with_reducible repeat (first | refine blk_drewN ?_ _ | refine blk_drew ?_ | refine blk_alloc ?_ _)); refine blk_far ?_ NB101_128.out _; (with_reducible repeat (first | refine blk_drewN ?_ _ | refine blk_drew ?_ | refine blk_alloc ?_ _)); refine blk_far ?_ NB101_128.out _; (with_reducible repeat (first | refine blk_drewN ?_ _ | refine blk_drew ?_ | refine blk_alloc ?_ _)); exact BK101.out) hb); have n7_ := am (blk_below (g := gb102) (o := .cells #[.slice A1_0 l1_0.length c1_0, .int .i64 a1_1] 24 (0, 0)) (by (with_reducible repeat (first | refine blk_drewN ?_ _ | refine blk_drew ?_ | refine blk_alloc ?_ _)); refine blk_far ?_ NB102_128.out _; (with_reducible repeat (first | refine blk_drewN ?_ _ | refine blk_drew ?_ | refine blk_alloc ?_ _)); refine blk_far ?_ NB102_128.out _; (with_reducible repeat (first | refine blk_drewN ?_ _ | refine blk_drew ?_ | refine blk_alloc ?_ _)); exact BK102.out) hb); have n8_ := am (blk_below (g := gb118) (o := .cells #[.slice Ao41 t113.length co41, .int .i64 t116] 26 (0, 0)) (by (with_reducible repeat (first | refine blk_drewN ?_ _ | refine blk_drew ?_ | refine blk_alloc ?_ _)); refine blk_far ?_ NB118_128.out _; (with_reducible repeat (first | refine blk_drewN ?_ _ | refine blk_drew ?_ | refine blk_alloc ?_ _)); refine blk_far ?_ NB118_128.out _; (with_reducible repeat (first | refine blk_drewN ?_ _ | refine blk_drew ?_ | refine blk_alloc ?_ _)); exact BK118.out) hb); have n9_ := am (blk_below (g := gb123) (o := .cells #[.slice Ao48 t119.length co48, .int .i64 t122] 26 (0, 0)) (by (with_reducible repeat (first | refine blk_drewN ?_ _ | refine blk_drew ?_ | refine blk_alloc ?_ _)); refine blk_far ?_ NB123_128.out _; (with_reducible repeat (first | refine blk_drewN ?_ _ | refine blk_drew ?_ | refine blk_alloc ?_ _)); refine blk_far ?_ NB123_128.out _; (with_reducible repeat (first | refine blk_drewN ?_ _ | refine blk_drew ?_ | refine blk_alloc ?_ _)); exact BK123.out) hb); have n10_ := am (blk_below (g := gb128) (o := .cells #[.slice Ao57 t124.length co57, .int .i64 t127] 26 (0, 0)) (by (with_reducible repeat (first | refine blk_drewN ?_ _ | refine blk_drew ?_ | refine blk_alloc ?_ _)); refine blk_put (cs := #[.slice Ao57 t124.length co57, .int .i64 0]) ?_ 1 _ rfl; (with_reducible repeat (first | refine blk_drewN ?_ _ | refine blk_drew ?_ | refine blk_alloc ?_ _)); refine blk_put (cs := #[.slice none 0 0, .int .i64 0]) ?_ 0 _ rfl; (with_reducible repeat (first | refine blk_drewN ?_ _ | refine blk_drew ?_ | refine blk_alloc ?_ _)); exact BK128.out) hb); have n11_ := am (below_step (bB HB.out) hb); clear HO107; clear HO111; clear HO115; clear HO121; clear HO126; clear BK101; clear BK102; clear BK118; clear BK123; clear BK128; clear HB; have HO107 := n0_; have HO111 := n1_; have HO115 := n2_; have HO121 := n3_; have HO126 := n4_; have HO131 := n5_; have BK101 := n6_; have BK102 := n7_; have BK118 := n8_; have BK123 := n9_; have BK128 := n10_; have HB := n11_; clear n0_ n1_ n2_ n3_ n4_ n5_ n6_ n7_ n8_ n9_ n10_ n11_; (try clear hb); (try clear hb2); (try clear hk); (try clear hi); (try clear ho0)) | ((with_reducible refine gate_dst (N := 10) rfl ?_); refine box_event ?hg (N := 10) ?hd (cs := #[.slice none 0 0, .int .i64 0]) (t := 26) ?hr ?_; (case hd => rfl); (case hg => rfl); (case hr => first | (go_simp; done) | (go_simp; rfl)); intro gb134 hg w65 hbox hb; have n0_ := am (Kd.R_below (bC HO107.out) hb); have n1_ := am (Kd.R_below (bC HO111.out) hb); have n2_ := am (Kd.R_below (bC HO115.out) hb); have n3_ := am (Kd.R_below (bC HO121.out) hb); have n4_ := am (Kd.R_below (bC HO126.out) hb); have n5_ := am (Kd.R_below (bC HO131.out) hb); have n6_ := am (blk_below (bA BK101.out) hb); have n7_ := am (blk_below (bA BK102.out) hb); have n8_ := am (blk_below (bA BK118.out) hb); have n9_ := am (blk_below (bA BK123.out) hb); have n10_ := am (blk_below (bA BK128.out) hb); have n11_ := am (below_step (bB HB.out) hb); have n12_ := am (hbox); have n13_ := am ((by rw [hg]; exact (below_size (bB HB.out)) : w.heap.size ≤ gb134)); have n14_ := am ((by rw [hg]; exact (below_size (bB HB.out)) : w.heap.size ≤ gb134)); have n15_ := am ((by rw [hg]; exact Nat.ne_of_lt (blk_lt (g := gb101) (o := .cells #[.slice A0_0 l0_0.length c0_0, .int .i64 a0_1] 24 (0, 0)) (bA BK101.out)) : gb101 ≠ gb134)); have n16_ := am ((by rw [hg]; exact Nat.ne_of_gt (blk_lt (g := gb101) (o := .cells #[.slice A0_0 l0_0.length c0_0, .int .i64 a0_1] 24 (0, 0)) (bA BK101.out)) : gb134 ≠ gb101)); have n17_ := am ((by rw [hg]; exact Nat.ne_of_lt (blk_lt (g := gb102) (o := .cells #[.slice A1_0 l1_0.length c1_0, .int .i64 a1_1] 24 (0, 0)) (bA BK102.out)) : gb102 ≠ gb134)); have n18_ := am ((by rw [hg]; exact Nat.ne_of_gt (blk_lt (g := gb102) (o := .cells #[.slice A1_0 l1_0.length c1_0, .int .i64 a1_1] 24 (0, 0)) (bA BK102.out)) : gb134 ≠ gb102)); have n19_ := am ((by rw [hg]; exact Nat.ne_of_lt (blk_lt (g := gb118) (o := .cells #[.slice Ao41 t113.length co41, .int .i64 t116] 26 (0, 0)) (bA BK118.out)) : gb118 ≠ gb134)); have n20_ := am ((by rw [hg]; exact Nat.ne_of_gt (blk_lt (g := gb118) (o := .cells #[.slice Ao41 t113.length co41, .int .i64 t116] 26 (0, 0)) (bA BK118.out)) : gb134 ≠ gb118)); have n21_ := am ((by rw [hg]; exact Nat.ne_of_lt (blk_lt (g := gb123) (o := .cells #[.slice Ao48 t119.length co48, .int .i64 t122] 26 (0, 0)) (bA BK123.out)) : gb123 ≠ gb134)); have n22_ := am ((by rw [hg]; exact Nat.ne_of_gt (blk_lt (g := gb123) (o := .cells #[.slice Ao48 t119.length co48, .int .i64 t122] 26 (0, 0)) (bA BK123.out)) : gb134 ≠ gb123)); have n23_ := am ((by rw [hg]; exact Nat.ne_of_lt (blk_lt (g := gb128) (o := .cells #[.slice Ao57 t124.length co57, .int .i64 t127] 26 (0, 0)) (bA BK128.out)) : gb128 ≠ gb134)); have n24_ := am ((by rw [hg]; exact Nat.ne_of_gt (blk_lt (g := gb128) (o := .cells #[.slice Ao57 t124.length co57, .int .i64 t127] 26 (0, 0)) (bA BK128.out)) : gb134 ≠ gb128)); clear HO107; clear HO111; clear HO115; clear HO121; clear HO126; clear HO131; clear BK101; clear BK102; clear BK118; clear BK123; clear BK128; clear HB; have HO107 := n0_; have HO111 := n1_; have HO115 := n2_; have HO121 := n3_; have HO126 := n4_; have HO131 := n5_; have BK101 := n6_; have BK102 := n7_; have BK118 := n8_; have BK123 := n9_; have BK128 := n10_; have HB := n11_; have BK134 := n12_; have GW134 := n13_; have GE134 := n14_; have NB101_134 := n15_; have NB134_101 := n16_; have NB102_134 := n17_; have NB134_102 := n18_; have NB118_134 := n19_; have NB134_118 := n20_; have NB123_134 := n21_; have NB134_123 := n22_; have NB128_134 := n23_; have NB134_128 := n24_; clear n0_ n1_ n2_ n3_ n4_ n5_ n6_ n7_ n8_ n9_ n10_ n11_ n12_ n13_ n14_ n15_ n16_ n17_ n18_ n19_ n20_ n21_ n22_ n23_ n24_; clear hb hbox hg; obtain ⟨Ao66, co66, eo66⟩ := Kd.R_slice HO131.out; subst eo66; have hnb67 := NB134_101.out; have hnc67 := NB101_134.out; have hnb68 := NB134_102.out; have hnc68 := NB102_134.out; have hnb69 := NB134_118.out; have hnc69 := NB118_134.out; have hnb70 := NB134_123.out; have hnc70 := NB123_134.out; have hnb71 := NB134_128.out; have hnc71 := NB128_134.out; have hcz72_0 : w65.cell? ⟨gb134, 0, none⟩ = some (.slice none 0 0) := (blk_cell BK134.out 0).trans rfl; have hcz72_1 : w65.cell? ⟨gb134, 1, none⟩ = some (.int .i64 0) := (blk_cell BK134.out 1).trans rfl; have hfz72_0 := blk_frozen BK134.out 0; have hfz72_1 := blk_frozen BK134.out 1))
   (try simp only [Act.put, qa3, qb3, qc3])
   go_cut [53] (fun v53 wc => ∃ (kq : Nat) (x53_24 : Bool), v53 = .bool x53_24 ∧ Aside0 (laws_FnExactDivFloats.j0 kq t117 t133 x53_24 l0_0 a0_1 l1_0 a1_1 t113 t116 t119 t122 t124 t127 t129 t132 = some r) ∧ Aside0 (kq ≤ k) ∧ Aside0 (Kd.R (Kd.int .i64) 3 wc w.heap.size (fun k_ => some k_ ≠ ((.slice Ao48 t119.length co48) : Value).ownBlock ∧ some k_ ≠ ((.slice Ao57 t124.length co57) : Value).ownBlock ∧ some k_ ≠ ((.slice Ao66 t129.length co66) : Value).ownBlock) (.slice Ao41 t113.length co41) t113) ∧ Aside0 (Kd.R (Kd.int .i64) 3 wc w.heap.size (fun k_ => some k_ ≠ ((.slice Ao41 t113.length co41) : Value).ownBlock ∧ some k_ ≠ ((.slice Ao57 t124.length co57) : Value).ownBlock ∧ some k_ ≠ ((.slice Ao66 t129.length co66) : Value).ownBlock) (.slice Ao48 t119.length co48) t119) ∧ Aside0 (Kd.R (Kd.int .i64) 3 wc w.heap.size (fun k_ => some k_ ≠ ((.slice Ao41 t113.length co41) : Value).ownBlock ∧ some k_ ≠ ((.slice Ao48 t119.length co48) : Value).ownBlock ∧ some k_ ≠ ((.slice Ao66 t129.length co66) : Value).ownBlock) (.slice Ao57 t124.length co57) t124) ∧ Aside0 (Kd.R (Kd.int .i64) 3 wc w.heap.size (fun k_ => some k_ ≠ ((.slice Ao41 t113.length co41) : Value).ownBlock ∧ some k_ ≠ ((.slice Ao48 t119.length co48) : Value).ownBlock ∧ some k_ ≠ ((.slice Ao57 t124.length co57) : Value).ownBlock) (.slice Ao66 t129.length co66) t129) ∧ Aside0 (wc.heap[gb101]? = some (.cells #[(.slice A0_0 l0_0.length c0_0), .int .i64 a0_1] 24 (0, 0))) ∧ Aside0 (wc.heap[gb102]? = some (.cells #[(.slice A1_0 l1_0.length c1_0), .int .i64 a1_1] 24 (0, 0))) ∧ Aside0 (wc.heap[gb118]? = some (.cells #[(.slice Ao41 t113.length co41), .int .i64 t116] 26 (0, 0))) ∧ Aside0 (wc.heap[gb123]? = some (.cells #[(.slice Ao48 t119.length co48), .int .i64 t122] 26 (0, 0))) ∧ Aside0 (wc.heap[gb128]? = some (.cells #[(.slice Ao57 t124.length co57), .int .i64 t127] 26 (0, 0))) ∧ Aside0 (wc.heap[gb134]? = some (.cells #[(.slice Ao66 t129.length co66), .int .i64 t132] 26 (0, 0))) ∧ Aside0 (Below w.heap.size w wc))
   case first =>
    have H := HC25.out; clear HC25
    replace H := Option.bind_eq_some_iff.mp H
    obtain ⟨t135, A730, H⟩ := H
    replace H : (if t135 = true then (laws_FnExactDivFloats.j0 k t117 t133 (t133 != t117) l0_0 a0_1 l1_0 a1_1 t113 t116 t119 t122 t124 t127 t129 t132) else (laws_FnExactDivFloats.j0 k t117 t133 true l0_0 a0_1 l1_0 a1_1 t113 t116 t119 t122 t124 t127 t129 t132)) = some r := H
    have A73 := am A730; clear A730
    by_cases c74 : t135 = true
    ·subst c74
     have H1 : (laws_FnExactDivFloats.j0 k t117 t133 (t133 != t117) l0_0 a0_1 l1_0 a1_1 t113 t116 t119 t122 t124 t127 t129 t132) = some r := by rw [if_pos rfl] at H; exact H
     clear H; have H := H1; clear H1
     have H' := am H
     clear H; have hnb75 := NB134_101.out; have hnc75 := NB101_134.out; have hnb76 := NB134_102.out; have hnc76 := NB102_134.out; have hnb77 := NB134_118.out; have hnc77 := NB118_134.out; have hnb78 := NB134_123.out; have hnc78 := NB123_134.out; have hnb79 := NB134_128.out; have hnc79 := NB128_134.out
     have hcz80_0 : w65.cell? ⟨gb134, 0, none⟩ = some (.slice none 0 0) := (blk_cell BK134.out 0).trans rfl
     have hcz80_1 : w65.cell? ⟨gb134, 1, none⟩ = some (.int .i64 0) := (blk_cell BK134.out 1).trans rfl
     have hfz80_0 := blk_frozen BK134.out 0; have hfz80_1 := blk_frozen BK134.out 1; have hnb81 := NB118_101.out; have hnc81 := NB101_118.out; have hnb82 := NB118_102.out; have hnc82 := NB102_118.out; have hnb83 := NB118_123.out; have hnc83 := NB123_118.out; have hnb84 := NB118_128.out; have hnc84 := NB128_118.out
     have hcz85_0 : w65.cell? ⟨gb118, 0, none⟩ = some (.slice Ao41 t113.length co41) := (blk_cell BK118.out 0).trans rfl
     have hcz85_1 : w65.cell? ⟨gb118, 1, none⟩ = some (.int .i64 t116) := (blk_cell BK118.out 1).trans rfl
     have hfz85_0 := blk_frozen BK118.out 0; have hfz85_1 := blk_frozen BK118.out 1
     go_wp2_with (first | ((with_reducible refine gate_callee (f := 10) rfl ?_); refine goesL_ (some 47) rfl rfl Try.func10 (by kernel_rfl) rfl #[.agg #[.slice Ao66 t129.length co66, .int .i64 t132], .agg #[.slice Ao41 t113.length co41, .int .i64 t116]] rfl bE ?_; (with_reducible refine (laws_eqFloating.calls k _ _ t129 t132 _ _ t113 t116 true _ ?side1 ?side2 ?side3 ?side4 A73.out).mono ?_); (case side1 => refine (Kd.R_reads' (e := 3) (base := w.heap.size) (ok := fun k_ => (((((True ∧ some k_ ≠ (v106 : Value).ownBlock) ∧ some k_ ≠ (v110 : Value).ownBlock) ∧ some k_ ≠ (.slice Ao41 t113.length co41 : Value).ownBlock) ∧ some k_ ≠ (.slice Ao48 t119.length co48 : Value).ownBlock) ∧ some k_ ≠ (.slice Ao57 t124.length co57 : Value).ownBlock)) (n := t129.length) (c := co66) ?_).2.2; exact (bC ((Kd.R_mono (Kd.R_far (p := ⟨gb134, 1, none⟩) (Kd.R_far (p := ⟨gb134, 0, none⟩) (Kd.R_types HO131.out BK134.out (by decide)) (fun _ hk => hk.2) (.slice Ao66 t129.length co66)) (fun _ hk => hk.2) (.int .i64 t132)) (fun _ h_ => h_.1))))); (case side2 => exact (Kd.R_reads' HO131.out).2.1); (case side3 => refine (Kd.R_reads' (e := 3) (base := w.heap.size) (ok := fun k_ => ((((some k_ ≠ (v106 : Value).ownBlock ∧ some k_ ≠ (v110 : Value).ownBlock) ∧ some k_ ≠ (.slice Ao48 t119.length co48 : Value).ownBlock) ∧ some k_ ≠ (.slice Ao57 t124.length co57 : Value).ownBlock) ∧ some k_ ≠ (.slice Ao66 t129.length co66 : Value).ownBlock)) (n := t113.length) (c := co41) ?_).2.2; exact (bC ((Kd.R_mono (Kd.R_far (p := ⟨gb134, 1, none⟩) (Kd.R_far (p := ⟨gb134, 0, none⟩) (Kd.R_types HO115.out BK134.out (by decide)) (fun _ hk => hk.2) (.slice Ao66 t129.length co66)) (fun _ hk => hk.2) (.int .i64 t132)) (fun _ h_ => h_.1))))); (case side4 => exact (Kd.R_reads' HO115.out).2.1); rintro e w86 ⟨rfl, hb⟩; refine ⟨_, rfl, ?_⟩; have n0_ := am (Kd.R_below (bC ((Kd.R_mono (Kd.R_far (p := ⟨gb134, 1, none⟩) (Kd.R_far (p := ⟨gb134, 0, none⟩) (Kd.R_types HO107.out BK134.out (by decide)) (fun _ hk => hk.2) (.slice Ao66 t129.length co66)) (fun _ hk => hk.2) (.int .i64 t132)) (fun _ h_ => h_.1)))) hb); have n1_ := am (Kd.R_below (bC ((Kd.R_mono (Kd.R_far (p := ⟨gb134, 1, none⟩) (Kd.R_far (p := ⟨gb134, 0, none⟩) (Kd.R_types HO111.out BK134.out (by decide)) (fun _ hk => hk.2) (.slice Ao66 t129.length co66)) (fun _ hk => hk.2) (.int .i64 t132)) (fun _ h_ => h_.1)))) hb); have n2_ := am (Kd.R_below (bC ((Kd.R_mono (Kd.R_far (p := ⟨gb134, 1, none⟩) (Kd.R_far (p := ⟨gb134, 0, none⟩) (Kd.R_types HO115.out BK134.out (by decide)) (fun _ hk => hk.2) (.slice Ao66 t129.length co66)) (fun _ hk => hk.2) (.int .i64 t132)) (fun _ h_ => h_.1)))) hb); have n3_ := am (Kd.R_below (bC ((Kd.R_mono (Kd.R_far (p := ⟨gb134, 1, none⟩) (Kd.R_far (p := ⟨gb134, 0, none⟩) (Kd.R_types HO121.out BK134.out (by decide)) (fun _ hk => hk.2) (.slice Ao66 t129.length co66)) (fun _ hk => hk.2) (.int .i64 t132)) (fun _ h_ => h_.1)))) hb); have n4_ := am (Kd.R_below (bC ((Kd.R_mono (Kd.R_far (p := ⟨gb134, 1, none⟩) (Kd.R_far (p := ⟨gb134, 0, none⟩) (Kd.R_types HO126.out BK134.out (by decide)) (fun _ hk => hk.2) (.slice Ao66 t129.length co66)) (fun _ hk => hk.2) (.int .i64 t132)) (fun _ h_ => h_.1)))) hb); have n5_ := am (Kd.R_below (bC ((Kd.R_mono (Kd.R_far (p := ⟨gb134, 1, none⟩) (Kd.R_far (p := ⟨gb134, 0, none⟩) (Kd.R_types HO131.out BK134.out (by decide)) (fun _ hk => hk.2) (.slice Ao66 t129.length co66)) (fun _ hk => hk.2) (.int .i64 t132)) (fun _ h_ => h_.1)))) hb); have n6_ := am (blk_below (g := gb101) (o := .cells #[.slice A0_0 l0_0.length c0_0, .int .i64 a0_1] 24 (0, 0)) (by (with_reducible repeat (first | refine blk_drewN ?_ _ | refine blk_drew ?_ | refine blk_alloc ?_ _)); refine blk_far ?_ NB101_134.out _; (with_reducible repeat (first | refine blk_drewN ?_ _ | refine blk_drew ?_ | refine blk_alloc ?_ _)); refine blk_far ?_ NB101_134.out _; (with_reducible repeat (first | refine blk_drewN ?_ _ | refine blk_drew ?_ | refine blk_alloc ?_ _)); exact BK101.out) hb); have n7_ := am (blk_below (g := gb102) (o := .cells #[.slice A1_0 l1_0.length c1_0, .int .i64 a1_1] 24 (0, 0)) (by (with_reducible repeat (first | refine blk_drewN ?_ _ | refine blk_drew ?_ | refine blk_alloc ?_ _)); refine blk_far ?_ NB102_134.out _; (with_reducible repeat (first | refine blk_drewN ?_ _ | refine blk_drew ?_ | refine blk_alloc ?_ _)); refine blk_far ?_ NB102_134.out _; (with_reducible repeat (first | refine blk_drewN ?_ _ | refine blk_drew ?_ | refine blk_alloc ?_ _)); exact BK102.out) hb); have n8_ := am (blk_below (g := gb118) (o := .cells #[.slice Ao41 t113.length co41, .int .i64 t116] 26 (0, 0)) (by (with_reducible repeat (first | refine blk_drewN ?_ _ | refine blk_drew ?_ | refine blk_alloc ?_ _)); refine blk_far ?_ NB118_134.out _; (with_reducible repeat (first | refine blk_drewN ?_ _ | refine blk_drew ?_ | refine blk_alloc ?_ _)); refine blk_far ?_ NB118_134.out _; (with_reducible repeat (first | refine blk_drewN ?_ _ | refine blk_drew ?_ | refine blk_alloc ?_ _)); exact BK118.out) hb); have n9_ := am (blk_below (g := gb123) (o := .cells #[.slice Ao48 t119.length co48, .int .i64 t122] 26 (0, 0)) (by (with_reducible repeat (first | refine blk_drewN ?_ _ | refine blk_drew ?_ | refine blk_alloc ?_ _)); refine blk_far ?_ NB123_134.out _; (with_reducible repeat (first | refine blk_drewN ?_ _ | refine blk_drew ?_ | refine blk_alloc ?_ _)); refine blk_far ?_ NB123_134.out _; (with_reducible repeat (first | refine blk_drewN ?_ _ | refine blk_drew ?_ | refine blk_alloc ?_ _)); exact BK123.out) hb); have n10_ := am (blk_below (g := gb128) (o := .cells #[.slice Ao57 t124.length co57, .int .i64 t127] 26 (0, 0)) (by (with_reducible repeat (first | refine blk_drewN ?_ _ | refine blk_drew ?_ | refine blk_alloc ?_ _)); refine blk_far ?_ NB128_134.out _; (with_reducible repeat (first | refine blk_drewN ?_ _ | refine blk_drew ?_ | refine blk_alloc ?_ _)); refine blk_far ?_ NB128_134.out _; (with_reducible repeat (first | refine blk_drewN ?_ _ | refine blk_drew ?_ | refine blk_alloc ?_ _)); exact BK128.out) hb); have n11_ := am (blk_below (g := gb134) (o := .cells #[.slice Ao66 t129.length co66, .int .i64 t132] 26 (0, 0)) (by (with_reducible repeat (first | refine blk_drewN ?_ _ | refine blk_drew ?_ | refine blk_alloc ?_ _)); refine blk_put (cs := #[.slice Ao66 t129.length co66, .int .i64 0]) ?_ 1 _ rfl; (with_reducible repeat (first | refine blk_drewN ?_ _ | refine blk_drew ?_ | refine blk_alloc ?_ _)); refine blk_put (cs := #[.slice none 0 0, .int .i64 0]) ?_ 0 _ rfl; (with_reducible repeat (first | refine blk_drewN ?_ _ | refine blk_drew ?_ | refine blk_alloc ?_ _)); exact BK134.out) hb); have n12_ := am (below_step (bB HB.out) hb); clear HO107; clear HO111; clear HO115; clear HO121; clear HO126; clear HO131; clear BK101; clear BK102; clear BK118; clear BK123; clear BK128; clear BK134; clear HB; have HO107 := n0_; have HO111 := n1_; have HO115 := n2_; have HO121 := n3_; have HO126 := n4_; have HO131 := n5_; have BK101 := n6_; have BK102 := n7_; have BK118 := n8_; have BK123 := n9_; have BK128 := n10_; have BK134 := n11_; have HB := n12_; clear n0_ n1_ n2_ n3_ n4_ n5_ n6_ n7_ n8_ n9_ n10_ n11_ n12_; (try clear hb); (try clear hb2); (try clear hk); (try clear hi)))
     go_meet
     case rel => exact ⟨_, ((t133 != t117)), (by first | rfl | (simp; done) | (simp [*]; done)), H', ⟨by first | omega | exact Nat.le_refl _⟩, ⟨by (with_reducible repeat (first | apply Kd.R_alloc | apply Kd.R_drewN | apply Kd.R_drew)); exact Kd.R_mono HO115.out (fun _ hk => ⟨hk.1.1.2, ⟨hk.1.2, hk.2⟩⟩)⟩, ⟨by (with_reducible repeat (first | apply Kd.R_alloc | apply Kd.R_drewN | apply Kd.R_drew)); exact Kd.R_mono HO121.out (fun _ hk => ⟨hk.1.1.2, ⟨hk.1.2, hk.2⟩⟩)⟩, ⟨by (with_reducible repeat (first | apply Kd.R_alloc | apply Kd.R_drewN | apply Kd.R_drew)); exact Kd.R_mono HO126.out (fun _ hk => ⟨hk.1.1.2, ⟨hk.1.2, hk.2⟩⟩)⟩, ⟨by (with_reducible repeat (first | apply Kd.R_alloc | apply Kd.R_drewN | apply Kd.R_drew)); exact Kd.R_mono HO131.out (fun _ hk => ⟨hk.1.1.2, ⟨hk.1.2, hk.2⟩⟩)⟩, ⟨bA BK101.out⟩, ⟨bA BK102.out⟩, ⟨bA BK118.out⟩, ⟨bA BK123.out⟩, ⟨bA BK128.out⟩, ⟨bA BK134.out⟩, ⟨bB HB.out⟩⟩
    ·replace c74 := Bool.eq_false_iff.mpr c74
     subst c74
     have H1 : (laws_FnExactDivFloats.j0 k t117 t133 true l0_0 a0_1 l1_0 a1_1 t113 t116 t119 t122 t124 t127 t129 t132) = some r := by rw [if_neg (show ¬ (false = true) by decide)] at H; exact H
     clear H; have H := H1; clear H1
     have H' := am H
     clear H; have hnb87 := NB134_101.out; have hnc87 := NB101_134.out; have hnb88 := NB134_102.out; have hnc88 := NB102_134.out; have hnb89 := NB134_118.out; have hnc89 := NB118_134.out; have hnb90 := NB134_123.out; have hnc90 := NB123_134.out; have hnb91 := NB134_128.out; have hnc91 := NB128_134.out
     have hcz92_0 : w65.cell? ⟨gb134, 0, none⟩ = some (.slice none 0 0) := (blk_cell BK134.out 0).trans rfl
     have hcz92_1 : w65.cell? ⟨gb134, 1, none⟩ = some (.int .i64 0) := (blk_cell BK134.out 1).trans rfl
     have hfz92_0 := blk_frozen BK134.out 0; have hfz92_1 := blk_frozen BK134.out 1; have hnb93 := NB118_101.out; have hnc93 := NB101_118.out; have hnb94 := NB118_102.out; have hnc94 := NB102_118.out; have hnb95 := NB118_123.out; have hnc95 := NB123_118.out; have hnb96 := NB118_128.out; have hnc96 := NB128_118.out
     have hcz97_0 : w65.cell? ⟨gb118, 0, none⟩ = some (.slice Ao41 t113.length co41) := (blk_cell BK118.out 0).trans rfl
     have hcz97_1 : w65.cell? ⟨gb118, 1, none⟩ = some (.int .i64 t116) := (blk_cell BK118.out 1).trans rfl
     have hfz97_0 := blk_frozen BK118.out 0; have hfz97_1 := blk_frozen BK118.out 1
     go_wp2_with (first | ((with_reducible refine gate_callee (f := 10) rfl ?_); refine goesL_ (some 47) rfl rfl Try.func10 (by kernel_rfl) rfl #[.agg #[.slice Ao66 t129.length co66, .int .i64 t132], .agg #[.slice Ao41 t113.length co41, .int .i64 t116]] rfl bE ?_; (with_reducible refine (laws_eqFloating.calls k _ _ t129 t132 _ _ t113 t116 false _ ?side1 ?side2 ?side3 ?side4 A73.out).mono ?_); (case side1 => refine (Kd.R_reads' (e := 3) (base := w.heap.size) (ok := fun k_ => (((((True ∧ some k_ ≠ (v106 : Value).ownBlock) ∧ some k_ ≠ (v110 : Value).ownBlock) ∧ some k_ ≠ (.slice Ao41 t113.length co41 : Value).ownBlock) ∧ some k_ ≠ (.slice Ao48 t119.length co48 : Value).ownBlock) ∧ some k_ ≠ (.slice Ao57 t124.length co57 : Value).ownBlock)) (n := t129.length) (c := co66) ?_).2.2; exact (bC ((Kd.R_mono (Kd.R_far (p := ⟨gb134, 1, none⟩) (Kd.R_far (p := ⟨gb134, 0, none⟩) (Kd.R_types HO131.out BK134.out (by decide)) (fun _ hk => hk.2) (.slice Ao66 t129.length co66)) (fun _ hk => hk.2) (.int .i64 t132)) (fun _ h_ => h_.1))))); (case side2 => exact (Kd.R_reads' HO131.out).2.1); (case side3 => refine (Kd.R_reads' (e := 3) (base := w.heap.size) (ok := fun k_ => ((((some k_ ≠ (v106 : Value).ownBlock ∧ some k_ ≠ (v110 : Value).ownBlock) ∧ some k_ ≠ (.slice Ao48 t119.length co48 : Value).ownBlock) ∧ some k_ ≠ (.slice Ao57 t124.length co57 : Value).ownBlock) ∧ some k_ ≠ (.slice Ao66 t129.length co66 : Value).ownBlock)) (n := t113.length) (c := co41) ?_).2.2; exact (bC ((Kd.R_mono (Kd.R_far (p := ⟨gb134, 1, none⟩) (Kd.R_far (p := ⟨gb134, 0, none⟩) (Kd.R_types HO115.out BK134.out (by decide)) (fun _ hk => hk.2) (.slice Ao66 t129.length co66)) (fun _ hk => hk.2) (.int .i64 t132)) (fun _ h_ => h_.1))))); (case side4 => exact (Kd.R_reads' HO115.out).2.1); rintro e w98 ⟨rfl, hb⟩; refine ⟨_, rfl, ?_⟩; have n0_ := am (Kd.R_below (bC ((Kd.R_mono (Kd.R_far (p := ⟨gb134, 1, none⟩) (Kd.R_far (p := ⟨gb134, 0, none⟩) (Kd.R_types HO107.out BK134.out (by decide)) (fun _ hk => hk.2) (.slice Ao66 t129.length co66)) (fun _ hk => hk.2) (.int .i64 t132)) (fun _ h_ => h_.1)))) hb); have n1_ := am (Kd.R_below (bC ((Kd.R_mono (Kd.R_far (p := ⟨gb134, 1, none⟩) (Kd.R_far (p := ⟨gb134, 0, none⟩) (Kd.R_types HO111.out BK134.out (by decide)) (fun _ hk => hk.2) (.slice Ao66 t129.length co66)) (fun _ hk => hk.2) (.int .i64 t132)) (fun _ h_ => h_.1)))) hb); have n2_ := am (Kd.R_below (bC ((Kd.R_mono (Kd.R_far (p := ⟨gb134, 1, none⟩) (Kd.R_far (p := ⟨gb134, 0, none⟩) (Kd.R_types HO115.out BK134.out (by decide)) (fun _ hk => hk.2) (.slice Ao66 t129.length co66)) (fun _ hk => hk.2) (.int .i64 t132)) (fun _ h_ => h_.1)))) hb); have n3_ := am (Kd.R_below (bC ((Kd.R_mono (Kd.R_far (p := ⟨gb134, 1, none⟩) (Kd.R_far (p := ⟨gb134, 0, none⟩) (Kd.R_types HO121.out BK134.out (by decide)) (fun _ hk => hk.2) (.slice Ao66 t129.length co66)) (fun _ hk => hk.2) (.int .i64 t132)) (fun _ h_ => h_.1)))) hb); have n4_ := am (Kd.R_below (bC ((Kd.R_mono (Kd.R_far (p := ⟨gb134, 1, none⟩) (Kd.R_far (p := ⟨gb134, 0, none⟩) (Kd.R_types HO126.out BK134.out (by decide)) (fun _ hk => hk.2) (.slice Ao66 t129.length co66)) (fun _ hk => hk.2) (.int .i64 t132)) (fun _ h_ => h_.1)))) hb); have n5_ := am (Kd.R_below (bC ((Kd.R_mono (Kd.R_far (p := ⟨gb134, 1, none⟩) (Kd.R_far (p := ⟨gb134, 0, none⟩) (Kd.R_types HO131.out BK134.out (by decide)) (fun _ hk => hk.2) (.slice Ao66 t129.length co66)) (fun _ hk => hk.2) (.int .i64 t132)) (fun _ h_ => h_.1)))) hb); have n6_ := am (blk_below (g := gb101) (o := .cells #[.slice A0_0 l0_0.length c0_0, .int .i64 a0_1] 24 (0, 0)) (by (with_reducible repeat (first | refine blk_drewN ?_ _ | refine blk_drew ?_ | refine blk_alloc ?_ _)); refine blk_far ?_ NB101_134.out _; (with_reducible repeat (first | refine blk_drewN ?_ _ | refine blk_drew ?_ | refine blk_alloc ?_ _)); refine blk_far ?_ NB101_134.out _; (with_reducible repeat (first | refine blk_drewN ?_ _ | refine blk_drew ?_ | refine blk_alloc ?_ _)); exact BK101.out) hb); have n7_ := am (blk_below (g := gb102) (o := .cells #[.slice A1_0 l1_0.length c1_0, .int .i64 a1_1] 24 (0, 0)) (by (with_reducible repeat (first | refine blk_drewN ?_ _ | refine blk_drew ?_ | refine blk_alloc ?_ _)); refine blk_far ?_ NB102_134.out _; (with_reducible repeat (first | refine blk_drewN ?_ _ | refine blk_drew ?_ | refine blk_alloc ?_ _)); refine blk_far ?_ NB102_134.out _; (with_reducible repeat (first | refine blk_drewN ?_ _ | refine blk_drew ?_ | refine blk_alloc ?_ _)); exact BK102.out) hb); have n8_ := am (blk_below (g := gb118) (o := .cells #[.slice Ao41 t113.length co41, .int .i64 t116] 26 (0, 0)) (by (with_reducible repeat (first | refine blk_drewN ?_ _ | refine blk_drew ?_ | refine blk_alloc ?_ _)); refine blk_far ?_ NB118_134.out _; (with_reducible repeat (first | refine blk_drewN ?_ _ | refine blk_drew ?_ | refine blk_alloc ?_ _)); refine blk_far ?_ NB118_134.out _; (with_reducible repeat (first | refine blk_drewN ?_ _ | refine blk_drew ?_ | refine blk_alloc ?_ _)); exact BK118.out) hb); have n9_ := am (blk_below (g := gb123) (o := .cells #[.slice Ao48 t119.length co48, .int .i64 t122] 26 (0, 0)) (by (with_reducible repeat (first | refine blk_drewN ?_ _ | refine blk_drew ?_ | refine blk_alloc ?_ _)); refine blk_far ?_ NB123_134.out _; (with_reducible repeat (first | refine blk_drewN ?_ _ | refine blk_drew ?_ | refine blk_alloc ?_ _)); refine blk_far ?_ NB123_134.out _; (with_reducible repeat (first | refine blk_drewN ?_ _ | refine blk_drew ?_ | refine blk_alloc ?_ _)); exact BK123.out) hb); have n10_ := am (blk_below (g := gb128) (o := .cells #[.slice Ao57 t124.length co57, .int .i64 t127] 26 (0, 0)) (by (with_reducible repeat (first | refine blk_drewN ?_ _ | refine blk_drew ?_ | refine blk_alloc ?_ _)); refine blk_far ?_ NB128_134.out _; (with_reducible repeat (first | refine blk_drewN ?_ _ | refine blk_drew ?_ | refine blk_alloc ?_ _)); refine blk_far ?_ NB128_134.out _; (with_reducible repeat (first | refine blk_drewN ?_ _ | refine blk_drew ?_ | refine blk_alloc ?_ _)); exact BK128.out) hb); have n11_ := am (blk_below (g := gb134) (o := .cells #[.slice Ao66 t129.length co66, .int .i64 t132] 26 (0, 0)) (by (with_reducible repeat (first | refine blk_drewN ?_ _ | refine blk_drew ?_ | refine blk_alloc ?_ _)); refine blk_put (cs := #[.slice Ao66 t129.length co66, .int .i64 0]) ?_ 1 _ rfl; (with_reducible repeat (first | refine blk_drewN ?_ _ | refine blk_drew ?_ | refine blk_alloc ?_ _)); refine blk_put (cs := #[.slice none 0 0, .int .i64 0]) ?_ 0 _ rfl; (with_reducible repeat (first | refine blk_drewN ?_ _ | refine blk_drew ?_ | refine blk_alloc ?_ _)); exact BK134.out) hb); have n12_ := am (below_step (bB HB.out) hb); clear HO107; clear HO111; clear HO115; clear HO121; clear HO126; clear HO131; clear BK101; clear BK102; clear BK118; clear BK123; clear BK128; clear BK134; clear HB; have HO107 := n0_; have HO111 := n1_; have HO115 := n2_; have HO121 := n3_; have HO126 := n4_; have HO131 := n5_; have BK101 := n6_; have BK102 := n7_; have BK118 := n8_; have BK123 := n9_; have BK128 := n10_; have BK134 := n11_; have HB := n12_; clear n0_ n1_ n2_ n3_ n4_ n5_ n6_ n7_ n8_ n9_ n10_ n11_ n12_; (try clear hb); (try clear hb2); (try clear hk); (try clear hi)))
     go_meet
     case rel => exact ⟨_, (true), (by first | rfl | (simp; done) | (simp [*]; done)), H', ⟨by first | omega | exact Nat.le_refl _⟩, ⟨by (with_reducible repeat (first | apply Kd.R_alloc | apply Kd.R_drewN | apply Kd.R_drew)); exact Kd.R_mono HO115.out (fun _ hk => ⟨hk.1.1.2, ⟨hk.1.2, hk.2⟩⟩)⟩, ⟨by (with_reducible repeat (first | apply Kd.R_alloc | apply Kd.R_drewN | apply Kd.R_drew)); exact Kd.R_mono HO121.out (fun _ hk => ⟨hk.1.1.2, ⟨hk.1.2, hk.2⟩⟩)⟩, ⟨by (with_reducible repeat (first | apply Kd.R_alloc | apply Kd.R_drewN | apply Kd.R_drew)); exact Kd.R_mono HO126.out (fun _ hk => ⟨hk.1.1.2, ⟨hk.1.2, hk.2⟩⟩)⟩, ⟨by (with_reducible repeat (first | apply Kd.R_alloc | apply Kd.R_drewN | apply Kd.R_drew)); exact Kd.R_mono HO131.out (fun _ hk => ⟨hk.1.1.2, ⟨hk.1.2, hk.2⟩⟩)⟩, ⟨bA BK101.out⟩, ⟨bA BK102.out⟩, ⟨bA BK118.out⟩, ⟨bA BK123.out⟩, ⟨bA BK128.out⟩, ⟨bA BK134.out⟩, ⟨bB HB.out⟩⟩
   case rest =>
    clear HC25
    try clear c1
    try clear p2
    try clear c4
    try clear c5
    try clear c6
    try clear c7
    try clear c8
    try clear c9
    try clear c10
    try clear c44
    try clear c49
    try clear c50
    try clear c51
    try clear c53
    try clear c58
    try clear c59
    try clear c60
    try clear c61
    try clear c67
    try clear c68
    try clear c69
    try clear c70
    try clear c71
    try clear c74
    try clear c75
    try clear c76
    try clear c77
    try clear c78
    try clear c79
    try clear c81
    try clear c82
    try clear c83
    try clear c84
    try clear c87
    try clear c88
    try clear c89
    try clear c90
    try clear c91
    try clear c93
    try clear c94
    try clear c95
    try clear c96
    try clear hcz45_0
    try clear hcz45_1
    try clear hcz52_0
    try clear hcz52_1
    try clear hcz54_0
    try clear hcz54_1
    try clear hcz62_0
    try clear hcz62_1
    try clear hcz63_0
    try clear hcz63_1
    try clear hcz72_0
    try clear hcz72_1
    try clear hcz80_0
    try clear hcz80_1
    try clear hcz85_0
    try clear hcz85_1
    try clear hcz92_0
    try clear hcz92_1
    try clear hcz97_0
    try clear hcz97_1
    try clear hfz45_0
    try clear hfz45_1
    try clear hfz52_0
    try clear hfz52_1
    try clear hfz54_0
    try clear hfz54_1
    try clear hfz62_0
    try clear hfz62_1
    try clear hfz63_0
    try clear hfz63_1
    try clear hfz72_0
    try clear hfz72_1
    try clear hfz80_0
    try clear hfz80_1
    try clear hfz85_0
    try clear hfz85_1
    try clear hfz92_0
    try clear hfz92_1
    try clear hfz97_0
    try clear hfz97_1
    obtain ⟨kq, x53_24, rfl, HA, HJ24, HO_119000, HO_124000, HO_129000, HO_135000, BK101, BK102, BK118, BK123, BK128, BK134, HB⟩ := hcut
    cases kq with
    | zero => exact absurd HA.out (by simp [laws_FnExactDivFloats.j0])
    | succ kj24 =>
     have H := HA.out; clear HA
     simp only [laws_FnExactDivFloats.j0] at H
     by_cases c99 : x53_24 = true
     ·subst c99
      have H1 : (some false) = some r := by rw [if_pos rfl] at H; exact H
      clear H; have H := H1; clear H1
      exact absurd ((Option.some.inj H).trans HT.out) (by decide)
     ·replace c99 := Bool.eq_false_iff.mpr c99
      subst c99
      have H1 : ((laws_toFloating.f kj24 l0_0 a0_1).bind fun bt136 => ((laws_eqFloating.f kj24 t119 t122 bt136.1 bt136.2).bind fun t140 => (if t140 = true then ((laws_toFloating.f kj24 l1_0 a1_1).bind fun bt141 => ((laws_eqFloating.f kj24 t124 t127 bt141.1 bt141.2).bind fun t145 => (if t145 = true then ((laws_markFloating.f kj24 t119 t122 1).bind fun bt146 => ((laws_markFloating.f kj24 t124 t127 bt146.1).bind fun bt148 => (if bt148.1 < 0 then (laws_FnExactDivFloats.j1 kj24 t117 true l0_0 a0_1 l1_0 a1_1 t113 t116 t129 t132) else ((laws_eqFloating.f kj24 t129 t132 t113 t116).bind fun t150 => (if t150 = true then (laws_FnExactDivFloats.j1 kj24 t117 (t133 != t117) l0_0 a0_1 l1_0 a1_1 t113 t116 t129 t132) else (laws_FnExactDivFloats.j1 kj24 t117 true l0_0 a0_1 l1_0 a1_1 t113 t116 t129 t132)))))) else (some false)))) else (some false)))) = some r := by rw [if_neg (show ¬ (false = true) by decide)] at H; exact H
      clear H; have H := H1; clear H1
      replace H := Option.bind_eq_some_iff.mp H
      obtain ⟨⟨t136, t139⟩, A1000, H⟩ := H
      replace H : ((laws_eqFloating.f kj24 t119 t122 t136 t139).bind fun t140 => (if t140 = true then ((laws_toFloating.f kj24 l1_0 a1_1).bind fun bt141 => ((laws_eqFloating.f kj24 t124 t127 bt141.1 bt141.2).bind fun t145 => (if t145 = true then ((laws_markFloating.f kj24 t119 t122 1).bind fun bt146 => ((laws_markFloating.f kj24 t124 t127 bt146.1).bind fun bt148 => (if bt148.1 < 0 then (laws_FnExactDivFloats.j1 kj24 t117 true l0_0 a0_1 l1_0 a1_1 t113 t116 t129 t132) else ((laws_eqFloating.f kj24 t129 t132 t113 t116).bind fun t150 => (if t150 = true then (laws_FnExactDivFloats.j1 kj24 t117 (t133 != t117) l0_0 a0_1 l1_0 a1_1 t113 t116 t129 t132) else (laws_FnExactDivFloats.j1 kj24 t117 true l0_0 a0_1 l1_0 a1_1 t113 t116 t129 t132)))))) else (some false)))) else (some false))) = some r := H
      have A100 := am A1000; clear A1000
      replace H := Option.bind_eq_some_iff.mp H
      obtain ⟨t140, A1010, H⟩ := H
      replace H : (if t140 = true then ((laws_toFloating.f kj24 l1_0 a1_1).bind fun bt141 => ((laws_eqFloating.f kj24 t124 t127 bt141.1 bt141.2).bind fun t145 => (if t145 = true then ((laws_markFloating.f kj24 t119 t122 1).bind fun bt146 => ((laws_markFloating.f kj24 t124 t127 bt146.1).bind fun bt148 => (if bt148.1 < 0 then (laws_FnExactDivFloats.j1 kj24 t117 true l0_0 a0_1 l1_0 a1_1 t113 t116 t129 t132) else ((laws_eqFloating.f kj24 t129 t132 t113 t116).bind fun t150 => (if t150 = true then (laws_FnExactDivFloats.j1 kj24 t117 (t133 != t117) l0_0 a0_1 l1_0 a1_1 t113 t116 t129 t132) else (laws_FnExactDivFloats.j1 kj24 t117 true l0_0 a0_1 l1_0 a1_1 t113 t116 t129 t132)))))) else (some false)))) else (some false)) = some r := H
      have A101 := am A1010; clear A1010
      by_cases c102 : t140 = true
      ·subst c102
       have H1 : ((laws_toFloating.f kj24 l1_0 a1_1).bind fun bt141 => ((laws_eqFloating.f kj24 t124 t127 bt141.1 bt141.2).bind fun t145 => (if t145 = true then ((laws_markFloating.f kj24 t119 t122 1).bind fun bt146 => ((laws_markFloating.f kj24 t124 t127 bt146.1).bind fun bt148 => (if bt148.1 < 0 then (laws_FnExactDivFloats.j1 kj24 t117 true l0_0 a0_1 l1_0 a1_1 t113 t116 t129 t132) else ((laws_eqFloating.f kj24 t129 t132 t113 t116).bind fun t150 => (if t150 = true then (laws_FnExactDivFloats.j1 kj24 t117 (t133 != t117) l0_0 a0_1 l1_0 a1_1 t113 t116 t129 t132) else (laws_FnExactDivFloats.j1 kj24 t117 true l0_0 a0_1 l1_0 a1_1 t113 t116 t129 t132)))))) else (some false)))) = some r := by rw [if_pos rfl] at H; exact H
       clear H; have H := H1; clear H1
       replace H := Option.bind_eq_some_iff.mp H
       obtain ⟨⟨t141, t144⟩, A1030, H⟩ := H
       replace H : ((laws_eqFloating.f kj24 t124 t127 t141 t144).bind fun t145 => (if t145 = true then ((laws_markFloating.f kj24 t119 t122 1).bind fun bt146 => ((laws_markFloating.f kj24 t124 t127 bt146.1).bind fun bt148 => (if bt148.1 < 0 then (laws_FnExactDivFloats.j1 kj24 t117 true l0_0 a0_1 l1_0 a1_1 t113 t116 t129 t132) else ((laws_eqFloating.f kj24 t129 t132 t113 t116).bind fun t150 => (if t150 = true then (laws_FnExactDivFloats.j1 kj24 t117 (t133 != t117) l0_0 a0_1 l1_0 a1_1 t113 t116 t129 t132) else (laws_FnExactDivFloats.j1 kj24 t117 true l0_0 a0_1 l1_0 a1_1 t113 t116 t129 t132)))))) else (some false))) = some r := H
       have A103 := am A1030; clear A1030
       replace H := Option.bind_eq_some_iff.mp H
       obtain ⟨t145, A1040, H⟩ := H
       replace H : (if t145 = true then ((laws_markFloating.f kj24 t119 t122 1).bind fun bt146 => ((laws_markFloating.f kj24 t124 t127 bt146.1).bind fun bt148 => (if bt148.1 < 0 then (laws_FnExactDivFloats.j1 kj24 t117 true l0_0 a0_1 l1_0 a1_1 t113 t116 t129 t132) else ((laws_eqFloating.f kj24 t129 t132 t113 t116).bind fun t150 => (if t150 = true then (laws_FnExactDivFloats.j1 kj24 t117 (t133 != t117) l0_0 a0_1 l1_0 a1_1 t113 t116 t129 t132) else (laws_FnExactDivFloats.j1 kj24 t117 true l0_0 a0_1 l1_0 a1_1 t113 t116 t129 t132)))))) else (some false)) = some r := H
       have A104 := am A1040; clear A1040
       by_cases c105 : t145 = true
       ·subst c105
        have H1 : ((laws_markFloating.f kj24 t119 t122 1).bind fun bt146 => ((laws_markFloating.f kj24 t124 t127 bt146.1).bind fun bt148 => (if bt148.1 < 0 then (laws_FnExactDivFloats.j1 kj24 t117 true l0_0 a0_1 l1_0 a1_1 t113 t116 t129 t132) else ((laws_eqFloating.f kj24 t129 t132 t113 t116).bind fun t150 => (if t150 = true then (laws_FnExactDivFloats.j1 kj24 t117 (t133 != t117) l0_0 a0_1 l1_0 a1_1 t113 t116 t129 t132) else (laws_FnExactDivFloats.j1 kj24 t117 true l0_0 a0_1 l1_0 a1_1 t113 t116 t129 t132)))))) = some r := by rw [if_pos rfl] at H; exact H
        clear H; have H := H1; clear H1
        replace H := Option.bind_eq_some_iff.mp H
        obtain ⟨⟨t146, t147⟩, A1060, H⟩ := H
        replace H : ((laws_markFloating.f kj24 t124 t127 t146).bind fun bt148 => (if bt148.1 < 0 then (laws_FnExactDivFloats.j1 kj24 t117 true l0_0 a0_1 l1_0 a1_1 t113 t116 t129 t132) else ((laws_eqFloating.f kj24 t129 t132 t113 t116).bind fun t150 => (if t150 = true then (laws_FnExactDivFloats.j1 kj24 t117 (t133 != t117) l0_0 a0_1 l1_0 a1_1 t113 t116 t129 t132) else (laws_FnExactDivFloats.j1 kj24 t117 true l0_0 a0_1 l1_0 a1_1 t113 t116 t129 t132))))) = some r := H
        have A106 := am A1060; clear A1060
        replace H := Option.bind_eq_some_iff.mp H
        obtain ⟨⟨t148, t149⟩, A1070, H⟩ := H
        replace H : (if t148 < 0 then (laws_FnExactDivFloats.j1 kj24 t117 true l0_0 a0_1 l1_0 a1_1 t113 t116 t129 t132) else ((laws_eqFloating.f kj24 t129 t132 t113 t116).bind fun t150 => (if t150 = true then (laws_FnExactDivFloats.j1 kj24 t117 (t133 != t117) l0_0 a0_1 l1_0 a1_1 t113 t116 t129 t132) else (laws_FnExactDivFloats.j1 kj24 t117 true l0_0 a0_1 l1_0 a1_1 t113 t116 t129 t132)))) = some r := H
        have A107 := am A1070; clear A1070; have HC108 := am H; clear H
        try go_wp2
        have n0_ := am (Kd.R_drew HO_119000.out); have n1_ := am (Kd.R_drew HO_124000.out); have n2_ := am (Kd.R_drew HO_129000.out); have n3_ := am (Kd.R_drew HO_135000.out); have n4_ := am (blk_drew BK101.out); have n5_ := am (blk_drew BK102.out); have n6_ := am (blk_drew BK118.out); have n7_ := am (blk_drew BK123.out); have n8_ := am (blk_drew BK128.out); have n9_ := am (blk_drew BK134.out); have n10_ := am (below_drew1 HB.out); clear HO_119000; clear HO_124000; clear HO_129000; clear HO_135000; clear BK101; clear BK102; clear BK118; clear BK123; clear BK128; clear BK134; clear HB; have HO_119000 := n0_; have HO_124000 := n1_; have HO_129000 := n2_; have HO_135000 := n3_; have BK101 := n4_; have BK102 := n5_; have BK118 := n6_; have BK123 := n7_; have BK128 := n8_; have BK134 := n9_; have HB := n10_; clear n0_ n1_ n2_ n3_ n4_ n5_ n6_ n7_ n8_ n9_ n10_
        refine start_ (n := 5) (S := fun w' => w'.cell? ⟨gb123, 0, none⟩ = some (.slice Ao48 t119.length co48) ∧ w'.cell? ⟨gb123, 1, none⟩ = some (.int .i64 t122) ∧ w'.cell? ⟨gb101, 0, none⟩ = some (.slice A0_0 l0_0.length c0_0) ∧ w'.cell? ⟨gb101, 1, none⟩ = some (.int .i64 a0_1)) (ds := []) #[false, false, false, false, false] (by kernel_rfl) rfl rfl ⟨(blk_cell BK123.out 0).trans rfl, (blk_cell BK123.out 1).trans rfl, (blk_cell BK101.out 0).trans rfl, (blk_cell BK101.out 1).trans rfl⟩ (fun hHeld => ?_)
        generalize wc.drew = w109 at HO_119000 HO_124000 HO_129000 HO_135000 BK101 BK102 BK118 BK123 BK128 BK134 HB hHeld ⊢
        refine take_ (i := 0) (N := some 54) (v := ?_) (a' := ?_) #[true, false, false, false, false] rfl rfl (by kernel_rfl) (fun _ _ _ h => h) (Or.inl ⟨by rfl, ?_⟩) hHeld ?_ ?_; rotate_left
        ·rintro w' ⟨s0, s1, s2, s3⟩
         go_simp; with_reducible rfl
        rotate_left
        ·simp only [Act.put, qa3, qb3, qc3, i64_w, i32_w]
         rfl
        refine take_ (i := 1) (N := some 55) (v := ?_) (a' := ?_) #[true, true, false, false, false] rfl rfl (by kernel_rfl) (fun _ _ _ h => h) (Or.inl ⟨by rfl, ?_⟩) hHeld ?_ ?_; rotate_left
        ·rintro w' ⟨s0, s1, s2, s3⟩
         go_simp; with_reducible rfl
        rotate_left
        ·simp only [Act.put, qa3, qb3, qc3, i64_w, i32_w]
         rfl
        refine one_ (i := 2) (N := some 56) #[true, true, true, false, false] rfl rfl (by kernel_rfl) (by decide) (fun K hK => ?_)
        refine goes_ Try.func8 (by kernel_rfl) rfl #[.agg #[.slice A0_0 l0_0.length c0_0, .int .i64 a0_1]] (by rfl) rfl rfl bE ?_
        with_reducible refine (laws_toFloating.calls kj24 _ _ l0_0 a0_1 t136 t139 _ ?side1 ?side2 A100.out).mono ?_
        (case side1 => exact bD ((Kd.C_below HR0_0.out HB.out)))
        (case side2 => exact HC0_0.out)
        rintro e w110 ⟨v137, rfl, ho0, hb⟩
        refine ⟨_, rfl, ?_⟩
        have n0_ := am (Kd.R_elder' (bC HO_119000.out) (Kd.R_base ho0) hb); have n1_ := am (Kd.R_elder' (bC HO_124000.out) (Kd.R_base ho0) hb); have n2_ := am (Kd.R_elder' (bC HO_129000.out) (Kd.R_base ho0) hb); have n3_ := am (Kd.R_elder' (bC HO_135000.out) (Kd.R_base ho0) hb); have n4_ := am (Kd.R_lower (Kd.R_new' (Kd.R_new' (Kd.R_new' (Kd.R_new' ho0 (Kd.R_lt (bC HO_119000.out))) (Kd.R_lt (bC HO_124000.out))) (Kd.R_lt (bC HO_129000.out))) (Kd.R_lt (bC HO_135000.out))) (below_size (bB HB.out))); have n5_ := am (blk_below (bA BK101.out) hb); have n6_ := am (blk_below (bA BK102.out) hb); have n7_ := am (blk_below (bA BK118.out) hb); have n8_ := am (blk_below (bA BK123.out) hb); have n9_ := am (blk_below (bA BK128.out) hb); have n10_ := am (blk_below (bA BK134.out) hb); have n11_ := am (below_step (bB HB.out) hb); clear HO_119000; clear HO_124000; clear HO_129000; clear HO_135000; clear BK101; clear BK102; clear BK118; clear BK123; clear BK128; clear BK134; clear HB; have HO_119000 := n0_; have HO_124000 := n1_; have HO_129000 := n2_; have HO_135000 := n3_; have HO138 := n4_; have BK101 := n5_; have BK102 := n6_; have BK118 := n7_; have BK123 := n8_; have BK128 := n9_; have BK134 := n10_; have HB := n11_; clear n0_ n1_ n2_ n3_ n4_ n5_ n6_ n7_ n8_ n9_ n10_ n11_; (try clear hb); (try clear hb2); (try clear hk); (try clear hi); (try clear ho0); clear A100
        obtain ⟨Ao111, co111, eo111⟩ := Kd.R_slice HO138.out
        (first | subst eo111 | (injection eo111 with f1_ f2_ f3_; have f4_ := f1_.symm; have f5_ := f3_.symm; clear f1_ f2_ f3_; subst f4_; subst f5_))
        refine hK.out _ _ ⟨(blk_cell BK123.out 0).trans rfl, (blk_cell BK123.out 1).trans rfl, (blk_cell BK101.out 0).trans rfl, (blk_cell BK101.out 1).trans rfl⟩ (fun hHeld => ?_)
        clear hK K
        refine norm_ (a' := ?_) ?_ ?_; rotate_left
        ·show Act.put _ (some 56) _ = _
         simp only [Act.put, qa3, qb3, qc3, i64_w, i32_w]
         rfl
        refine one_ (i := 3) (N := some 57) #[true, true, true, true, false] rfl rfl (by kernel_rfl) (by decide) (fun K hK => ?_)
        refine goes_ Try.func10 (by kernel_rfl) rfl #[.agg #[.slice Ao48 t119.length co48, .int .i64 t122], .agg #[.slice Ao111 t136.length co111, .int .i64 t139]] (by rfl) rfl rfl bE ?_
        with_reducible refine (laws_eqFloating.calls kj24 _ _ t119 t122 _ _ t136 t139 true _ ?side1 ?side2 ?side3 ?side4 A101.out).mono ?_
        (case side1 => exact bD ((Kd.R_reads' HO_124000.out).2.2))
        (case side2 => exact (Kd.R_reads' HO_124000.out).2.1)
        (case side3 => exact bD ((Kd.R_reads' HO138.out).2.2))
        (case side4 => exact (Kd.R_reads' HO138.out).2.1)
        rintro e w112 ⟨rfl, hb⟩
        refine ⟨_, rfl, ?_⟩
        have n0_ := am (Kd.R_below (bC HO_119000.out) hb); have n1_ := am (Kd.R_below (bC HO_124000.out) hb); have n2_ := am (Kd.R_below (bC HO_129000.out) hb); have n3_ := am (Kd.R_below (bC HO_135000.out) hb); have n4_ := am (Kd.R_below (bC HO138.out) hb); have n5_ := am (blk_below (bA BK101.out) hb); have n6_ := am (blk_below (bA BK102.out) hb); have n7_ := am (blk_below (bA BK118.out) hb); have n8_ := am (blk_below (bA BK123.out) hb); have n9_ := am (blk_below (bA BK128.out) hb); have n10_ := am (blk_below (bA BK134.out) hb); have n11_ := am (below_step (bB HB.out) hb); clear HO_119000; clear HO_124000; clear HO_129000; clear HO_135000; clear HO138; clear BK101; clear BK102; clear BK118; clear BK123; clear BK128; clear BK134; clear HB; have HO_119000 := n0_; have HO_124000 := n1_; have HO_129000 := n2_; have HO_135000 := n3_; have HO138 := n4_; have BK101 := n5_; have BK102 := n6_; have BK118 := n7_; have BK123 := n8_; have BK128 := n9_; have BK134 := n10_; have HB := n11_; clear n0_ n1_ n2_ n3_ n4_ n5_ n6_ n7_ n8_ n9_ n10_ n11_; (try clear hb); (try clear hb2); (try clear hk); (try clear hi); clear A101
        refine hK.out _ _ ⟨(blk_cell BK123.out 0).trans rfl, (blk_cell BK123.out 1).trans rfl, (blk_cell BK101.out 0).trans rfl, (blk_cell BK101.out 1).trans rfl⟩ (fun hHeld => ?_)
        clear hK K
        refine norm_ (a' := ?_) ?_ ?_; rotate_left
        ·show Act.put _ (some 57) _ = _
         simp only [Act.put, qa3, qb3, qc3, i64_w, i32_w]
         rfl
        refine pure_ (i := 4) (N := some 58) (v := ?_) (a' := ?_) #[true, true, true, true, true] rfl rfl (by kernel_rfl) (fun _ _ _ h => h) (Or.inl ⟨by rfl, ?_⟩) ?_ ?_; rotate_left
        ·intro w'
         go_simp; with_reducible rfl
        rotate_left
        ·simp only [Act.put, qa3, qb3, qc3, i64_w, i32_w]
         rfl
        refine done_ (by kernel_rfl) ?_
        try go_wp2
        have n0_ := am (Kd.R_drew HO_119000.out); have n1_ := am (Kd.R_drew HO_124000.out); have n2_ := am (Kd.R_drew HO_129000.out); have n3_ := am (Kd.R_drew HO_135000.out); have n4_ := am (Kd.R_drew HO138.out); have n5_ := am (blk_drew BK101.out); have n6_ := am (blk_drew BK102.out); have n7_ := am (blk_drew BK118.out); have n8_ := am (blk_drew BK123.out); have n9_ := am (blk_drew BK128.out); have n10_ := am (blk_drew BK134.out); have n11_ := am (below_drew1 HB.out); clear HO_119000; clear HO_124000; clear HO_129000; clear HO_135000; clear HO138; clear BK101; clear BK102; clear BK118; clear BK123; clear BK128; clear BK134; clear HB; have HO_119000 := n0_; have HO_124000 := n1_; have HO_129000 := n2_; have HO_135000 := n3_; have HO138 := n4_; have BK101 := n5_; have BK102 := n6_; have BK118 := n7_; have BK123 := n8_; have BK128 := n9_; have BK134 := n10_; have HB := n11_; clear n0_ n1_ n2_ n3_ n4_ n5_ n6_ n7_ n8_ n9_ n10_ n11_
        refine start_ (n := 5) (S := fun w' => w'.cell? ⟨gb128, 0, none⟩ = some (.slice Ao57 t124.length co57) ∧ w'.cell? ⟨gb128, 1, none⟩ = some (.int .i64 t127) ∧ w'.cell? ⟨gb102, 0, none⟩ = some (.slice A1_0 l1_0.length c1_0) ∧ w'.cell? ⟨gb102, 1, none⟩ = some (.int .i64 a1_1)) (ds := []) #[false, false, false, false, false] (by kernel_rfl) rfl rfl ⟨(blk_cell BK128.out 0).trans rfl, (blk_cell BK128.out 1).trans rfl, (blk_cell BK102.out 0).trans rfl, (blk_cell BK102.out 1).trans rfl⟩ (fun hHeld => ?_)
        generalize w112.drew = w113 at HO_119000 HO_124000 HO_129000 HO_135000 HO138 BK101 BK102 BK118 BK123 BK128 BK134 HB hHeld ⊢
        refine take_ (i := 0) (N := some 59) (v := ?_) (a' := ?_) #[true, false, false, false, false] rfl rfl (by kernel_rfl) (fun _ _ _ h => h) (Or.inl ⟨by rfl, ?_⟩) hHeld ?_ ?_; rotate_left
        ·rintro w' ⟨s0, s1, s2, s3⟩
         go_simp; with_reducible rfl
        rotate_left
        ·simp only [Act.put, qa3, qb3, qc3, i64_w, i32_w]
         rfl
        refine take_ (i := 1) (N := some 60) (v := ?_) (a' := ?_) #[true, true, false, false, false] rfl rfl (by kernel_rfl) (fun _ _ _ h => h) (Or.inl ⟨by rfl, ?_⟩) hHeld ?_ ?_; rotate_left
        ·rintro w' ⟨s0, s1, s2, s3⟩
         go_simp; with_reducible rfl
        rotate_left
        ·simp only [Act.put, qa3, qb3, qc3, i64_w, i32_w]
         rfl
        refine one_ (i := 2) (N := some 61) #[true, true, true, false, false] rfl rfl (by kernel_rfl) (by decide) (fun K hK => ?_)
        refine goes_ Try.func8 (by kernel_rfl) rfl #[.agg #[.slice A1_0 l1_0.length c1_0, .int .i64 a1_1]] (by rfl) rfl rfl bE ?_
        with_reducible refine (laws_toFloating.calls kj24 _ _ l1_0 a1_1 t141 t144 _ ?side1 ?side2 A103.out).mono ?_
        (case side1 => exact bD ((Kd.C_below HR1_0.out HB.out)))
        (case side2 => exact HC1_0.out)
        rintro e w114 ⟨v142, rfl, ho0, hb⟩
        refine ⟨_, rfl, ?_⟩
        have n0_ := am (Kd.R_elder' (bC HO_119000.out) (Kd.R_base ho0) hb); have n1_ := am (Kd.R_elder' (bC HO_124000.out) (Kd.R_base ho0) hb); have n2_ := am (Kd.R_elder' (bC HO_129000.out) (Kd.R_base ho0) hb); have n3_ := am (Kd.R_elder' (bC HO_135000.out) (Kd.R_base ho0) hb); have n4_ := am (Kd.R_elder' (bC HO138.out) (Kd.R_base ho0) hb); have n5_ := am (Kd.R_lower (Kd.R_new' (Kd.R_new' (Kd.R_new' (Kd.R_new' (Kd.R_new' ho0 (Kd.R_lt (bC HO_119000.out))) (Kd.R_lt (bC HO_124000.out))) (Kd.R_lt (bC HO_129000.out))) (Kd.R_lt (bC HO_135000.out))) (Kd.R_lt (bC HO138.out))) (below_size (bB HB.out))); have n6_ := am (blk_below (bA BK101.out) hb); have n7_ := am (blk_below (bA BK102.out) hb); have n8_ := am (blk_below (bA BK118.out) hb); have n9_ := am (blk_below (bA BK123.out) hb); have n10_ := am (blk_below (bA BK128.out) hb); have n11_ := am (blk_below (bA BK134.out) hb); have n12_ := am (below_step (bB HB.out) hb); clear HO_119000; clear HO_124000; clear HO_129000; clear HO_135000; clear HO138; clear BK101; clear BK102; clear BK118; clear BK123; clear BK128; clear BK134; clear HB; have HO_119000 := n0_; have HO_124000 := n1_; have HO_129000 := n2_; have HO_135000 := n3_; have HO138 := n4_; have HO143 := n5_; have BK101 := n6_; have BK102 := n7_; have BK118 := n8_; have BK123 := n9_; have BK128 := n10_; have BK134 := n11_; have HB := n12_; clear n0_ n1_ n2_ n3_ n4_ n5_ n6_ n7_ n8_ n9_ n10_ n11_ n12_; (try clear hb); (try clear hb2); (try clear hk); (try clear hi); (try clear ho0); clear A103
        obtain ⟨Ao115, co115, eo115⟩ := Kd.R_slice HO143.out
        (first | subst eo115 | (injection eo115 with f1_ f2_ f3_; have f4_ := f1_.symm; have f5_ := f3_.symm; clear f1_ f2_ f3_; subst f4_; subst f5_))
        refine hK.out _ _ ⟨(blk_cell BK128.out 0).trans rfl, (blk_cell BK128.out 1).trans rfl, (blk_cell BK102.out 0).trans rfl, (blk_cell BK102.out 1).trans rfl⟩ (fun hHeld => ?_)
        clear hK K
        refine norm_ (a' := ?_) ?_ ?_; rotate_left
        ·show Act.put _ (some 61) _ = _
         simp only [Act.put, qa3, qb3, qc3, i64_w, i32_w]
         rfl
        refine one_ (i := 3) (N := some 62) #[true, true, true, true, false] rfl rfl (by kernel_rfl) (by decide) (fun K hK => ?_)
        refine goes_ Try.func10 (by kernel_rfl) rfl #[.agg #[.slice Ao57 t124.length co57, .int .i64 t127], .agg #[.slice Ao115 t141.length co115, .int .i64 t144]] (by rfl) rfl rfl bE ?_
        with_reducible refine (laws_eqFloating.calls kj24 _ _ t124 t127 _ _ t141 t144 true _ ?side1 ?side2 ?side3 ?side4 A104.out).mono ?_
        (case side1 => exact bD ((Kd.R_reads' HO_129000.out).2.2))
        (case side2 => exact (Kd.R_reads' HO_129000.out).2.1)
        (case side3 => exact bD ((Kd.R_reads' HO143.out).2.2))
        (case side4 => exact (Kd.R_reads' HO143.out).2.1)
        rintro e w116 ⟨rfl, hb⟩
        refine ⟨_, rfl, ?_⟩
        have n0_ := am (Kd.R_below (bC HO_119000.out) hb); have n1_ := am (Kd.R_below (bC HO_124000.out) hb); have n2_ := am (Kd.R_below (bC HO_129000.out) hb); have n3_ := am (Kd.R_below (bC HO_135000.out) hb); have n4_ := am (Kd.R_below (bC HO138.out) hb); have n5_ := am (Kd.R_below (bC HO143.out) hb); have n6_ := am (blk_below (bA BK101.out) hb); have n7_ := am (blk_below (bA BK102.out) hb); have n8_ := am (blk_below (bA BK118.out) hb); have n9_ := am (blk_below (bA BK123.out) hb); have n10_ := am (blk_below (bA BK128.out) hb); have n11_ := am (blk_below (bA BK134.out) hb); have n12_ := am (below_step (bB HB.out) hb); clear HO_119000; clear HO_124000; clear HO_129000; clear HO_135000; clear HO138; clear HO143; clear BK101; clear BK102; clear BK118; clear BK123; clear BK128; clear BK134; clear HB; have HO_119000 := n0_; have HO_124000 := n1_; have HO_129000 := n2_; have HO_135000 := n3_; have HO138 := n4_; have HO143 := n5_; have BK101 := n6_; have BK102 := n7_; have BK118 := n8_; have BK123 := n9_; have BK128 := n10_; have BK134 := n11_; have HB := n12_; clear n0_ n1_ n2_ n3_ n4_ n5_ n6_ n7_ n8_ n9_ n10_ n11_ n12_; (try clear hb); (try clear hb2); (try clear hk); (try clear hi); clear A104
        refine hK.out _ _ ⟨(blk_cell BK128.out 0).trans rfl, (blk_cell BK128.out 1).trans rfl, (blk_cell BK102.out 0).trans rfl, (blk_cell BK102.out 1).trans rfl⟩ (fun hHeld => ?_)
        clear hK K
        refine norm_ (a' := ?_) ?_ ?_; rotate_left
        ·show Act.put _ (some 62) _ = _
         simp only [Act.put, qa3, qb3, qc3, i64_w, i32_w]
         rfl
        refine pure_ (i := 4) (N := some 63) (v := ?_) (a' := ?_) #[true, true, true, true, true] rfl rfl (by kernel_rfl) (fun _ _ _ h => h) (Or.inl ⟨by rfl, ?_⟩) ?_ ?_; rotate_left
        ·intro w'
         go_simp; with_reducible rfl
        rotate_left
        ·simp only [Act.put, qa3, qb3, qc3, i64_w, i32_w]
         rfl
        refine done_ (by kernel_rfl) ?_
        have hnb117 := NB123_101.out; have hnc117 := NB101_123.out; have hnb118 := NB123_102.out; have hnc118 := NB102_123.out; have hnb119 := NB123_118.out; have hnc119 := NB118_123.out; have hnb120 := NB123_128.out; have hnc120 := NB128_123.out; have hnb121 := NB123_134.out; have hnc121 := NB134_123.out
        have hcz122_0 : w116.cell? ⟨gb123, 0, none⟩ = some (.slice Ao48 t119.length co48) := (blk_cell BK123.out 0).trans rfl
        have hcz122_1 : w116.cell? ⟨gb123, 1, none⟩ = some (.int .i64 t122) := (blk_cell BK123.out 1).trans rfl
        have hfz122_0 := blk_frozen BK123.out 0; have hfz122_1 := blk_frozen BK123.out 1
        go_upto_region 21 with (first | ((with_reducible refine gate_callee (f := 11) rfl ?_); refine goesL_ (some 66) rfl rfl Try.func11 (by kernel_rfl) rfl #[.agg #[.slice Ao48 t119.length co48, .int .i64 t122], .int .i64 1] rfl bE ?_; (with_reducible refine (laws_markFloating.calls kj24 (fun k_ => some k_ = (.slice Ao48 t119.length co48 : Value).ownBlock) (.slice Ao48 t119.length co48) t119 t122 1 t146 t147 w _ ?side1 ?side2 A106.out).mono ?_); (case side1 => repeat (first | (with_reducible first | exact HB.out | apply below_alloc | apply pw_below_drewN | apply below_drew1 | refine below_set ?_ GE101.out | refine below_set ?_ GE102.out | refine below_set ?_ GE118.out | refine below_set ?_ GE123.out | refine below_set ?_ GE128.out | refine below_set ?_ GE134.out) | exact HB.out)); (case side2 => exact Kd.R_tight rfl HO_124000.out); rintro e w123 ⟨rfl, hy0, hb, hkp⟩; refine ⟨_, rfl, ?_⟩; have n0_ := am (Kd.R_mono (ok' := fun k_ => some k_ ≠ (.slice Ao48 t119.length co48 : Value).ownBlock ∧ some k_ ≠ (.slice Ao57 t124.length co57 : Value).ownBlock ∧ some k_ ≠ (.slice Ao66 t129.length co66 : Value).ownBlock ∧ some k_ ≠ (.slice Ao111 t136.length co111 : Value).ownBlock ∧ some k_ ≠ (.slice Ao115 t141.length co115 : Value).ownBlock) (Kd.R_keptB (HO_119000.out) hkp (fun k_ hk_ hs_ => (hk_.1.1.1) hs_)) (fun k_ hk_ => ⟨hk_.1.1.1.1, hk_.1.1.1.2.1, hk_.1.1.1.2.2, hk_.1.1.2, hk_.1.2⟩)); have n1_ := am (Kd.R_reok rfl hy0 (fun k_ e_ => HO_124000.out.1 k_ e_)); have n2_ := am (Kd.R_mono (ok' := fun k_ => some k_ ≠ (.slice Ao41 t113.length co41 : Value).ownBlock ∧ some k_ ≠ (.slice Ao48 t119.length co48 : Value).ownBlock ∧ some k_ ≠ (.slice Ao66 t129.length co66 : Value).ownBlock ∧ some k_ ≠ (.slice Ao111 t136.length co111 : Value).ownBlock ∧ some k_ ≠ (.slice Ao115 t141.length co115 : Value).ownBlock) (Kd.R_keptB (HO_129000.out) hkp (fun k_ hk_ hs_ => (hk_.1.1.2.1) hs_)) (fun k_ hk_ => ⟨hk_.1.1.1.1, hk_.1.1.1.2.1, hk_.1.1.1.2.2, hk_.1.1.2, hk_.1.2⟩)); have n3_ := am (Kd.R_mono (ok' := fun k_ => some k_ ≠ (.slice Ao41 t113.length co41 : Value).ownBlock ∧ some k_ ≠ (.slice Ao48 t119.length co48 : Value).ownBlock ∧ some k_ ≠ (.slice Ao57 t124.length co57 : Value).ownBlock ∧ some k_ ≠ (.slice Ao111 t136.length co111 : Value).ownBlock ∧ some k_ ≠ (.slice Ao115 t141.length co115 : Value).ownBlock) (Kd.R_keptB (HO_135000.out) hkp (fun k_ hk_ hs_ => (hk_.1.1.2.1) hs_)) (fun k_ hk_ => ⟨hk_.1.1.1.1, hk_.1.1.1.2.1, hk_.1.1.1.2.2, hk_.1.1.2, hk_.1.2⟩)); have n4_ := am (blk_kept (bA BK101.out) hkp (fun hs_ => (fun e_ => (Kd.R_ne HO_124000.out BK101.out (by decide)) e_) hs_)); have n5_ := am (blk_kept (bA BK102.out) hkp (fun hs_ => (fun e_ => (Kd.R_ne HO_124000.out BK102.out (by decide)) e_) hs_)); have n6_ := am (blk_kept (bA BK118.out) hkp (fun hs_ => (fun e_ => (Kd.R_ne HO_124000.out BK118.out (by decide)) e_) hs_)); have n7_ := am (blk_kept (bA BK123.out) hkp (fun hs_ => (fun e_ => (Kd.R_ne HO_124000.out BK123.out (by decide)) e_) hs_)); have n8_ := am (blk_kept (bA BK128.out) hkp (fun hs_ => (fun e_ => (Kd.R_ne HO_124000.out BK128.out (by decide)) e_) hs_)); have n9_ := am (blk_kept (bA BK134.out) hkp (fun hs_ => (fun e_ => (Kd.R_ne HO_124000.out BK134.out (by decide)) e_) hs_)); have n10_ := am (Kd.R_mono (ok' := fun k_ => some k_ ≠ (.slice Ao41 t113.length co41 : Value).ownBlock ∧ some k_ ≠ (.slice Ao48 t119.length co48 : Value).ownBlock ∧ some k_ ≠ (.slice Ao57 t124.length co57 : Value).ownBlock ∧ some k_ ≠ (.slice Ao66 t129.length co66 : Value).ownBlock ∧ some k_ ≠ (.slice Ao115 t141.length co115 : Value).ownBlock) (Kd.R_keptB (HO138.out) hkp (fun k_ hk_ hs_ => (hk_.1.1.1.2) hs_)) (fun k_ hk_ => ⟨hk_.1.1.1.1.1.2, hk_.1.1.1.1.2, hk_.1.1.1.2, hk_.1.1.2, hk_.1.2⟩)); have n11_ := am (Kd.R_mono (ok' := fun k_ => some k_ ≠ (.slice Ao41 t113.length co41 : Value).ownBlock ∧ some k_ ≠ (.slice Ao48 t119.length co48 : Value).ownBlock ∧ some k_ ≠ (.slice Ao57 t124.length co57 : Value).ownBlock ∧ some k_ ≠ (.slice Ao66 t129.length co66 : Value).ownBlock ∧ some k_ ≠ (.slice Ao111 t136.length co111 : Value).ownBlock) (Kd.R_keptB (HO143.out) hkp (fun k_ hk_ hs_ => (hk_.1.1.1.2) hs_)) (fun k_ hk_ => ⟨hk_.1.1.1.1.1.2, hk_.1.1.1.1.2, hk_.1.1.1.2, hk_.1.1.2, hk_.1.2⟩)); have n12_ := am (hb); clear HO_119000; clear HO_124000; clear HO_129000; clear HO_135000; clear BK101; clear BK102; clear BK118; clear BK123; clear BK128; clear BK134; clear HO138; clear HO143; clear HB; have HO_119000 := n0_; have HO_124000 := n1_; have HO_129000 := n2_; have HO_135000 := n3_; have BK101 := n4_; have BK102 := n5_; have BK118 := n6_; have BK123 := n7_; have BK128 := n8_; have BK134 := n9_; have HO138 := n10_; have HO143 := n11_; have HB := n12_; clear n0_ n1_ n2_ n3_ n4_ n5_ n6_ n7_ n8_ n9_ n10_ n11_ n12_; (try clear hb); (try clear hkp); (try clear hy0); have hnb124 := NB128_101.out; have hnc124 := NB101_128.out; have hnb125 := NB128_102.out; have hnc125 := NB102_128.out; have hnb126 := NB128_118.out; have hnc126 := NB118_128.out; have hnb127 := NB128_134.out; have hnc127 := NB134_128.out; have hcz128_0 : w123.cell? ⟨gb128, 0, none⟩ = some (.slice Ao57 t124.length co57) := (blk_cell BK128.out 0).trans rfl; have hcz128_1 : w123.cell? ⟨gb128, 1, none⟩ = some (.int .i64 t127) := (blk_cell BK128.out 1).trans rfl; have hfz128_0 := blk_frozen BK128.out 0; have hfz128_1 := blk_frozen BK128.out 1) | ((with_reducible refine gate_callee (f := 11) rfl ?_); refine goesL_ (some 69) rfl rfl Try.func11 (by kernel_rfl) rfl #[.agg #[.slice Ao57 t124.length co57, .int .i64 t127], .int .i64 t146] rfl bE ?_; (with_reducible refine (laws_markFloating.calls kj24 (fun k_ => some k_ = (.slice Ao57 t124.length co57 : Value).ownBlock) (.slice Ao57 t124.length co57) t124 t127 t146 t148 t149 w _ ?side1 ?side2 A107.out).mono ?_); (case side1 => repeat (first | (with_reducible first | exact HB.out | apply below_alloc | apply pw_below_drewN | apply below_drew1 | refine below_set ?_ GE101.out | refine below_set ?_ GE102.out | refine below_set ?_ GE118.out | refine below_set ?_ GE123.out | refine below_set ?_ GE128.out | refine below_set ?_ GE134.out) | exact HB.out)); (case side2 => exact Kd.R_tight rfl HO_129000.out); rintro e w129 ⟨rfl, hy0, hb, hkp⟩; refine ⟨_, rfl, ?_⟩; have n0_ := am (Kd.R_mono (ok' := fun k_ => some k_ ≠ (.slice Ao48 t119.length co48 : Value).ownBlock ∧ some k_ ≠ (.slice Ao57 t124.length co57 : Value).ownBlock ∧ some k_ ≠ (.slice Ao66 t129.length co66 : Value).ownBlock ∧ some k_ ≠ (.slice Ao111 t136.length co111 : Value).ownBlock ∧ some k_ ≠ (.slice Ao115 t141.length co115 : Value).ownBlock) (Kd.R_keptB (HO_119000.out) hkp (fun k_ hk_ hs_ => (hk_.2.1) hs_)) (fun k_ hk_ => ⟨hk_.1.1, hk_.1.2.1, hk_.1.2.2.1, hk_.1.2.2.2.1, hk_.1.2.2.2.2⟩)); have n1_ := am (Kd.R_mono (ok' := fun k_ => some k_ ≠ (.slice Ao41 t113.length co41 : Value).ownBlock ∧ some k_ ≠ (.slice Ao57 t124.length co57 : Value).ownBlock ∧ some k_ ≠ (.slice Ao66 t129.length co66 : Value).ownBlock ∧ some k_ ≠ (.slice Ao111 t136.length co111 : Value).ownBlock ∧ some k_ ≠ (.slice Ao115 t141.length co115 : Value).ownBlock) (Kd.R_keptB (HO_124000.out) hkp (fun k_ hk_ hs_ => (hk_.1.1.2.1) hs_)) (fun k_ hk_ => ⟨hk_.1.1.1.1, hk_.1.1.1.2.1, hk_.1.1.1.2.2, hk_.1.1.2, hk_.1.2⟩)); have n2_ := am (Kd.R_reok rfl hy0 (fun k_ e_ => HO_129000.out.1 k_ e_)); have n3_ := am (Kd.R_mono (ok' := fun k_ => some k_ ≠ (.slice Ao41 t113.length co41 : Value).ownBlock ∧ some k_ ≠ (.slice Ao48 t119.length co48 : Value).ownBlock ∧ some k_ ≠ (.slice Ao57 t124.length co57 : Value).ownBlock ∧ some k_ ≠ (.slice Ao111 t136.length co111 : Value).ownBlock ∧ some k_ ≠ (.slice Ao115 t141.length co115 : Value).ownBlock) (Kd.R_keptB (HO_135000.out) hkp (fun k_ hk_ hs_ => (hk_.2.2.1) hs_)) (fun k_ hk_ => ⟨hk_.1.1, hk_.1.2.1, hk_.1.2.2.1, hk_.1.2.2.2.1, hk_.1.2.2.2.2⟩)); have n4_ := am (blk_kept (bA BK101.out) hkp (fun hs_ => (fun e_ => (Kd.R_ne HO_129000.out BK101.out (by decide)) e_) hs_)); have n5_ := am (blk_kept (bA BK102.out) hkp (fun hs_ => (fun e_ => (Kd.R_ne HO_129000.out BK102.out (by decide)) e_) hs_)); have n6_ := am (blk_kept (bA BK118.out) hkp (fun hs_ => (fun e_ => (Kd.R_ne HO_129000.out BK118.out (by decide)) e_) hs_)); have n7_ := am (blk_kept (bA BK123.out) hkp (fun hs_ => (fun e_ => (Kd.R_ne HO_129000.out BK123.out (by decide)) e_) hs_)); have n8_ := am (blk_kept (bA BK128.out) hkp (fun hs_ => (fun e_ => (Kd.R_ne HO_129000.out BK128.out (by decide)) e_) hs_)); have n9_ := am (blk_kept (bA BK134.out) hkp (fun hs_ => (fun e_ => (Kd.R_ne HO_129000.out BK134.out (by decide)) e_) hs_)); have n10_ := am (Kd.R_mono (ok' := fun k_ => some k_ ≠ (.slice Ao41 t113.length co41 : Value).ownBlock ∧ some k_ ≠ (.slice Ao48 t119.length co48 : Value).ownBlock ∧ some k_ ≠ (.slice Ao57 t124.length co57 : Value).ownBlock ∧ some k_ ≠ (.slice Ao66 t129.length co66 : Value).ownBlock ∧ some k_ ≠ (.slice Ao115 t141.length co115 : Value).ownBlock) (Kd.R_keptB (HO138.out) hkp (fun k_ hk_ hs_ => (hk_.2.2.1) hs_)) (fun k_ hk_ => ⟨hk_.1.1, hk_.1.2.1, hk_.1.2.2.1, hk_.1.2.2.2.1, hk_.1.2.2.2.2⟩)); have n11_ := am (Kd.R_mono (ok' := fun k_ => some k_ ≠ (.slice Ao41 t113.length co41 : Value).ownBlock ∧ some k_ ≠ (.slice Ao48 t119.length co48 : Value).ownBlock ∧ some k_ ≠ (.slice Ao57 t124.length co57 : Value).ownBlock ∧ some k_ ≠ (.slice Ao66 t129.length co66 : Value).ownBlock ∧ some k_ ≠ (.slice Ao111 t136.length co111 : Value).ownBlock) (Kd.R_keptB (HO143.out) hkp (fun k_ hk_ hs_ => (hk_.2.2.1) hs_)) (fun k_ hk_ => ⟨hk_.1.1, hk_.1.2.1, hk_.1.2.2.1, hk_.1.2.2.2.1, hk_.1.2.2.2.2⟩)); have n12_ := am (hb); clear HO_119000; clear HO_124000; clear HO_129000; clear HO_135000; clear BK101; clear BK102; clear BK118; clear BK123; clear BK128; clear BK134; clear HO138; clear HO143; clear HB; have HO_119000 := n0_; have HO_124000 := n1_; have HO_129000 := n2_; have HO_135000 := n3_; have BK101 := n4_; have BK102 := n5_; have BK118 := n6_; have BK123 := n7_; have BK128 := n8_; have BK134 := n9_; have HO138 := n10_; have HO143 := n11_; have HB := n12_; clear n0_ n1_ n2_ n3_ n4_ n5_ n6_ n7_ n8_ n9_ n10_ n11_ n12_; (try clear hb); (try clear hkp); (try clear hy0)))
        (try simp only [Act.put, qa3, qb3, qc3])
        go_cut [82] (fun v82 wc => ∃ (kq : Nat) (x82_107 : Bool), v82 = .bool x82_107 ∧ Aside0 (laws_FnExactDivFloats.j1 kq t117 x82_107 l0_0 a0_1 l1_0 a1_1 t113 t116 t129 t132 = some r) ∧ Aside0 (kq ≤ kj24) ∧ Aside0 (Kd.R (Kd.int .i64) 3 wc w.heap.size (fun k_ => some k_ ≠ ((.slice Ao48 t119.length co48) : Value).ownBlock ∧ some k_ ≠ ((.slice Ao57 t124.length co57) : Value).ownBlock ∧ some k_ ≠ ((.slice Ao66 t129.length co66) : Value).ownBlock) (.slice Ao41 t113.length co41) t113) ∧ Aside0 (Kd.R (Kd.int .i64) 3 wc w.heap.size (fun k_ => some k_ ≠ ((.slice Ao41 t113.length co41) : Value).ownBlock ∧ some k_ ≠ ((.slice Ao57 t124.length co57) : Value).ownBlock ∧ some k_ ≠ ((.slice Ao66 t129.length co66) : Value).ownBlock) (.slice Ao48 t119.length co48) t147) ∧ Aside0 (Kd.R (Kd.int .i64) 3 wc w.heap.size (fun k_ => some k_ ≠ ((.slice Ao41 t113.length co41) : Value).ownBlock ∧ some k_ ≠ ((.slice Ao48 t119.length co48) : Value).ownBlock ∧ some k_ ≠ ((.slice Ao66 t129.length co66) : Value).ownBlock) (.slice Ao57 t124.length co57) t149) ∧ Aside0 (Kd.R (Kd.int .i64) 3 wc w.heap.size (fun k_ => some k_ ≠ ((.slice Ao41 t113.length co41) : Value).ownBlock ∧ some k_ ≠ ((.slice Ao48 t119.length co48) : Value).ownBlock ∧ some k_ ≠ ((.slice Ao57 t124.length co57) : Value).ownBlock) (.slice Ao66 t129.length co66) t129) ∧ Aside0 (wc.heap[gb101]? = some (.cells #[(.slice A0_0 l0_0.length c0_0), .int .i64 a0_1] 24 (0, 0))) ∧ Aside0 (wc.heap[gb102]? = some (.cells #[(.slice A1_0 l1_0.length c1_0), .int .i64 a1_1] 24 (0, 0))) ∧ Aside0 (wc.heap[gb118]? = some (.cells #[(.slice Ao41 t113.length co41), .int .i64 t116] 26 (0, 0))) ∧ Aside0 (wc.heap[gb123]? = some (.cells #[(.slice Ao48 t119.length co48), .int .i64 t122] 26 (0, 0))) ∧ Aside0 (wc.heap[gb128]? = some (.cells #[(.slice Ao57 t124.length co57), .int .i64 t127] 26 (0, 0))) ∧ Aside0 (wc.heap[gb134]? = some (.cells #[(.slice Ao66 t129.length co66), .int .i64 t132] 26 (0, 0))) ∧ Aside0 (Below w.heap.size w wc))
        case first =>
         have H := HC108.out; clear HC108
         by_cases c130 : t148 < 0
         ·rw [if_pos c130] at H
          have c130b0 : decide (t148 < 0) = true := decide_eq_true c130
          clear c130
          (first | rw [c130b0] | (simp only [i64_w, i32_w]; rw [c130b0]) | skip)
          have H' := am H
          clear H
          go_wp2
          go_meet
          case rel => exact ⟨_, (true), (by first | rfl | (simp; done) | (simp [*]; done)), H', ⟨by have := HJ24.out; first | omega | exact Nat.le_refl _⟩, ⟨by (with_reducible repeat (first | apply Kd.R_alloc | apply Kd.R_drewN | apply Kd.R_drew)); exact Kd.R_mono HO_119000.out (fun _ hk => ⟨hk.1, ⟨hk.2.1, hk.2.2.1⟩⟩)⟩, ⟨by (with_reducible repeat (first | apply Kd.R_alloc | apply Kd.R_drewN | apply Kd.R_drew)); exact Kd.R_mono HO_124000.out (fun _ hk => ⟨hk.1, ⟨hk.2.1, hk.2.2.1⟩⟩)⟩, ⟨by (with_reducible repeat (first | apply Kd.R_alloc | apply Kd.R_drewN | apply Kd.R_drew)); exact Kd.R_mono HO_129000.out (fun _ hk => ⟨hk.1, ⟨hk.2.1, hk.2.2.1⟩⟩)⟩, ⟨by (with_reducible repeat (first | apply Kd.R_alloc | apply Kd.R_drewN | apply Kd.R_drew)); exact Kd.R_mono HO_135000.out (fun _ hk => ⟨hk.1, ⟨hk.2.1, hk.2.2.1⟩⟩)⟩, ⟨bA BK101.out⟩, ⟨bA BK102.out⟩, ⟨bA BK118.out⟩, ⟨bA BK123.out⟩, ⟨bA BK128.out⟩, ⟨bA BK134.out⟩, ⟨bB HB.out⟩⟩
         ·rw [if_neg c130] at H
          have c130b0 : decide (t148 < 0) = false := decide_eq_false c130
          clear c130
          (first | rw [c130b0] | (simp only [i64_w, i32_w]; rw [c130b0]) | skip)
          replace H := Option.bind_eq_some_iff.mp H
          obtain ⟨t150, A1310, H⟩ := H
          replace H : (if t150 = true then (laws_FnExactDivFloats.j1 kj24 t117 (t133 != t117) l0_0 a0_1 l1_0 a1_1 t113 t116 t129 t132) else (laws_FnExactDivFloats.j1 kj24 t117 true l0_0 a0_1 l1_0 a1_1 t113 t116 t129 t132)) = some r := H
          have A131 := am A1310; clear A1310
          by_cases c132 : t150 = true
          ·subst c132
           have H1 : (laws_FnExactDivFloats.j1 kj24 t117 (t133 != t117) l0_0 a0_1 l1_0 a1_1 t113 t116 t129 t132) = some r := by rw [if_pos rfl] at H; exact H
           clear H; have H := H1; clear H1
           have H' := am H
           clear H; have hnb133 := NB134_101.out; have hnc133 := NB101_134.out; have hnb134 := NB134_102.out; have hnc134 := NB102_134.out; have hnb135 := NB134_118.out; have hnc135 := NB118_134.out; have hnb136 := NB134_123.out; have hnc136 := NB123_134.out; have hnb137 := NB134_128.out; have hnc137 := NB128_134.out
           have hcz138_0 : w129.cell? ⟨gb134, 0, none⟩ = some (.slice Ao66 t129.length co66) := (blk_cell BK134.out 0).trans rfl
           have hcz138_1 : w129.cell? ⟨gb134, 1, none⟩ = some (.int .i64 t132) := (blk_cell BK134.out 1).trans rfl
           have hfz138_0 := blk_frozen BK134.out 0; have hfz138_1 := blk_frozen BK134.out 1; have hnb139 := NB118_101.out; have hnc139 := NB101_118.out; have hnb140 := NB118_102.out; have hnc140 := NB102_118.out; have hnb141 := NB118_123.out; have hnc141 := NB123_118.out; have hnb142 := NB118_128.out; have hnc142 := NB128_118.out
           have hcz143_0 : w129.cell? ⟨gb118, 0, none⟩ = some (.slice Ao41 t113.length co41) := (blk_cell BK118.out 0).trans rfl
           have hcz143_1 : w129.cell? ⟨gb118, 1, none⟩ = some (.int .i64 t116) := (blk_cell BK118.out 1).trans rfl
           have hfz143_0 := blk_frozen BK118.out 0; have hfz143_1 := blk_frozen BK118.out 1
           go_wp2_with (first | (go_at_call 10; (with_reducible refine (laws_eqFloating.calls kj24 _ _ t129 t132 _ _ t113 t116 true _ ?side1 ?side2 ?side3 ?side4 A131.out).mono ?_); (case side1 => exact bD ((Kd.R_reads' HO_135000.out).2.2)); (case side2 => exact (Kd.R_reads' HO_135000.out).2.1); (case side3 => exact bD ((Kd.R_reads' HO_119000.out).2.2)); (case side4 => exact (Kd.R_reads' HO_119000.out).2.1); rintro e w144 ⟨rfl, hb⟩; have n0_ := am (Kd.R_below (bC HO_119000.out) hb); have n1_ := am (Kd.R_below (bC HO_124000.out) hb); have n2_ := am (Kd.R_below (bC HO_129000.out) hb); have n3_ := am (Kd.R_below (bC HO_135000.out) hb); have n4_ := am (Kd.R_below (bC HO138.out) hb); have n5_ := am (Kd.R_below (bC HO143.out) hb); have n6_ := am (blk_below (bA BK101.out) hb); have n7_ := am (blk_below (bA BK102.out) hb); have n8_ := am (blk_below (bA BK118.out) hb); have n9_ := am (blk_below (bA BK123.out) hb); have n10_ := am (blk_below (bA BK128.out) hb); have n11_ := am (blk_below (bA BK134.out) hb); have n12_ := am (below_step (bB HB.out) hb); clear HO_119000; clear HO_124000; clear HO_129000; clear HO_135000; clear HO138; clear HO143; clear BK101; clear BK102; clear BK118; clear BK123; clear BK128; clear BK134; clear HB; have HO_119000 := n0_; have HO_124000 := n1_; have HO_129000 := n2_; have HO_135000 := n3_; have HO138 := n4_; have HO143 := n5_; have BK101 := n6_; have BK102 := n7_; have BK118 := n8_; have BK123 := n9_; have BK128 := n10_; have BK134 := n11_; have HB := n12_; clear n0_ n1_ n2_ n3_ n4_ n5_ n6_ n7_ n8_ n9_ n10_ n11_ n12_; (try clear hb); (try clear hb2); (try clear hk); (try clear hi)))
           go_meet
           case rel => exact ⟨_, ((t133 != t117)), (by first | rfl | (simp; done) | (simp [*]; done)), H', ⟨by have := HJ24.out; first | omega | exact Nat.le_refl _⟩, ⟨by (with_reducible repeat (first | apply Kd.R_alloc | apply Kd.R_drewN | apply Kd.R_drew)); exact Kd.R_mono HO_119000.out (fun _ hk => ⟨hk.1, ⟨hk.2.1, hk.2.2.1⟩⟩)⟩, ⟨by (with_reducible repeat (first | apply Kd.R_alloc | apply Kd.R_drewN | apply Kd.R_drew)); exact Kd.R_mono HO_124000.out (fun _ hk => ⟨hk.1, ⟨hk.2.1, hk.2.2.1⟩⟩)⟩, ⟨by (with_reducible repeat (first | apply Kd.R_alloc | apply Kd.R_drewN | apply Kd.R_drew)); exact Kd.R_mono HO_129000.out (fun _ hk => ⟨hk.1, ⟨hk.2.1, hk.2.2.1⟩⟩)⟩, ⟨by (with_reducible repeat (first | apply Kd.R_alloc | apply Kd.R_drewN | apply Kd.R_drew)); exact Kd.R_mono HO_135000.out (fun _ hk => ⟨hk.1, ⟨hk.2.1, hk.2.2.1⟩⟩)⟩, ⟨bA BK101.out⟩, ⟨bA BK102.out⟩, ⟨bA BK118.out⟩, ⟨bA BK123.out⟩, ⟨bA BK128.out⟩, ⟨bA BK134.out⟩, ⟨bB HB.out⟩⟩
          ·replace c132 := Bool.eq_false_iff.mpr c132
           subst c132
           have H1 : (laws_FnExactDivFloats.j1 kj24 t117 true l0_0 a0_1 l1_0 a1_1 t113 t116 t129 t132) = some r := by rw [if_neg (show ¬ (false = true) by decide)] at H; exact H
           clear H; have H := H1; clear H1
           have H' := am H
           clear H; have hnb145 := NB134_101.out; have hnc145 := NB101_134.out; have hnb146 := NB134_102.out; have hnc146 := NB102_134.out; have hnb147 := NB134_118.out; have hnc147 := NB118_134.out; have hnb148 := NB134_123.out; have hnc148 := NB123_134.out; have hnb149 := NB134_128.out; have hnc149 := NB128_134.out
           have hcz150_0 : w129.cell? ⟨gb134, 0, none⟩ = some (.slice Ao66 t129.length co66) := (blk_cell BK134.out 0).trans rfl
           have hcz150_1 : w129.cell? ⟨gb134, 1, none⟩ = some (.int .i64 t132) := (blk_cell BK134.out 1).trans rfl
           have hfz150_0 := blk_frozen BK134.out 0; have hfz150_1 := blk_frozen BK134.out 1; have hnb151 := NB118_101.out; have hnc151 := NB101_118.out; have hnb152 := NB118_102.out; have hnc152 := NB102_118.out; have hnb153 := NB118_123.out; have hnc153 := NB123_118.out; have hnb154 := NB118_128.out; have hnc154 := NB128_118.out
           have hcz155_0 : w129.cell? ⟨gb118, 0, none⟩ = some (.slice Ao41 t113.length co41) := (blk_cell BK118.out 0).trans rfl
           have hcz155_1 : w129.cell? ⟨gb118, 1, none⟩ = some (.int .i64 t116) := (blk_cell BK118.out 1).trans rfl
           have hfz155_0 := blk_frozen BK118.out 0; have hfz155_1 := blk_frozen BK118.out 1
           go_wp2_with (first | (go_at_call 10; (with_reducible refine (laws_eqFloating.calls kj24 _ _ t129 t132 _ _ t113 t116 false _ ?side1 ?side2 ?side3 ?side4 A131.out).mono ?_); (case side1 => exact bD ((Kd.R_reads' HO_135000.out).2.2)); (case side2 => exact (Kd.R_reads' HO_135000.out).2.1); (case side3 => exact bD ((Kd.R_reads' HO_119000.out).2.2)); (case side4 => exact (Kd.R_reads' HO_119000.out).2.1); rintro e w156 ⟨rfl, hb⟩; have n0_ := am (Kd.R_below (bC HO_119000.out) hb); have n1_ := am (Kd.R_below (bC HO_124000.out) hb); have n2_ := am (Kd.R_below (bC HO_129000.out) hb); have n3_ := am (Kd.R_below (bC HO_135000.out) hb); have n4_ := am (Kd.R_below (bC HO138.out) hb); have n5_ := am (Kd.R_below (bC HO143.out) hb); have n6_ := am (blk_below (bA BK101.out) hb); have n7_ := am (blk_below (bA BK102.out) hb); have n8_ := am (blk_below (bA BK118.out) hb); have n9_ := am (blk_below (bA BK123.out) hb); have n10_ := am (blk_below (bA BK128.out) hb); have n11_ := am (blk_below (bA BK134.out) hb); have n12_ := am (below_step (bB HB.out) hb); clear HO_119000; clear HO_124000; clear HO_129000; clear HO_135000; clear HO138; clear HO143; clear BK101; clear BK102; clear BK118; clear BK123; clear BK128; clear BK134; clear HB; have HO_119000 := n0_; have HO_124000 := n1_; have HO_129000 := n2_; have HO_135000 := n3_; have HO138 := n4_; have HO143 := n5_; have BK101 := n6_; have BK102 := n7_; have BK118 := n8_; have BK123 := n9_; have BK128 := n10_; have BK134 := n11_; have HB := n12_; clear n0_ n1_ n2_ n3_ n4_ n5_ n6_ n7_ n8_ n9_ n10_ n11_ n12_; (try clear hb); (try clear hb2); (try clear hk); (try clear hi)))
           go_meet
           case rel => exact ⟨_, (true), (by first | rfl | (simp; done) | (simp [*]; done)), H', ⟨by have := HJ24.out; first | omega | exact Nat.le_refl _⟩, ⟨by (with_reducible repeat (first | apply Kd.R_alloc | apply Kd.R_drewN | apply Kd.R_drew)); exact Kd.R_mono HO_119000.out (fun _ hk => ⟨hk.1, ⟨hk.2.1, hk.2.2.1⟩⟩)⟩, ⟨by (with_reducible repeat (first | apply Kd.R_alloc | apply Kd.R_drewN | apply Kd.R_drew)); exact Kd.R_mono HO_124000.out (fun _ hk => ⟨hk.1, ⟨hk.2.1, hk.2.2.1⟩⟩)⟩, ⟨by (with_reducible repeat (first | apply Kd.R_alloc | apply Kd.R_drewN | apply Kd.R_drew)); exact Kd.R_mono HO_129000.out (fun _ hk => ⟨hk.1, ⟨hk.2.1, hk.2.2.1⟩⟩)⟩, ⟨by (with_reducible repeat (first | apply Kd.R_alloc | apply Kd.R_drewN | apply Kd.R_drew)); exact Kd.R_mono HO_135000.out (fun _ hk => ⟨hk.1, ⟨hk.2.1, hk.2.2.1⟩⟩)⟩, ⟨bA BK101.out⟩, ⟨bA BK102.out⟩, ⟨bA BK118.out⟩, ⟨bA BK123.out⟩, ⟨bA BK128.out⟩, ⟨bA BK134.out⟩, ⟨bB HB.out⟩⟩
        case rest =>
         clear HC108
         try clear c1
         try clear p2
         try clear c7
         try clear c8
         try clear c9
         try clear c10
         try clear c11
         try clear c12
         try clear c13
         try clear c14
         try clear c15
         try clear c77
         try clear c78
         try clear c79
         try clear c81
         try clear c82
         try clear c83
         try clear c84
         try clear c87
         try clear c88
         try clear c89
         try clear c90
         try clear c91
         try clear c93
         try clear c94
         try clear c95
         try clear c96
         try clear c99
         try clear c102
         try clear c105
         try clear c117
         try clear c118
         try clear c119
         try clear c120
         try clear c121
         try clear c124
         try clear c125
         try clear c126
         try clear c127
         try clear c130
         try clear c130b0
         try clear c132
         try clear c133
         try clear c134
         try clear c135
         try clear c136
         try clear c137
         try clear c139
         try clear c140
         try clear c141
         try clear c142
         try clear c145
         try clear c146
         try clear c147
         try clear c148
         try clear c149
         try clear c151
         try clear c152
         try clear c153
         try clear c154
         try clear hcz122_0
         try clear hcz122_1
         try clear hcz128_0
         try clear hcz128_1
         try clear hcz138_0
         try clear hcz138_1
         try clear hcz143_0
         try clear hcz143_1
         try clear hcz150_0
         try clear hcz150_1
         try clear hcz155_0
         try clear hcz155_1
         try clear hcz45_0
         try clear hcz45_1
         try clear hcz52_0
         try clear hcz52_1
         try clear hcz54_0
         try clear hcz54_1
         try clear hcz62_0
         try clear hcz62_1
         try clear hcz63_0
         try clear hcz63_1
         try clear hcz72_0
         try clear hcz72_1
         try clear hcz80_0
         try clear hcz80_1
         try clear hcz85_0
         try clear hcz85_1
         try clear hcz92_0
         try clear hcz92_1
         try clear hcz97_0
         try clear hcz97_1
         try clear hfz122_0
         try clear hfz122_1
         try clear hfz128_0
         try clear hfz128_1
         try clear hfz138_0
         try clear hfz138_1
         try clear hfz143_0
         try clear hfz143_1
         try clear hfz150_0
         try clear hfz150_1
         try clear hfz155_0
         try clear hfz155_1
         try clear hfz45_0
         try clear hfz45_1
         try clear hfz52_0
         try clear hfz52_1
         try clear hfz54_0
         try clear hfz54_1
         try clear hfz62_0
         try clear hfz62_1
         try clear hfz63_0
         try clear hfz63_1
         try clear hfz72_0
         try clear hfz72_1
         try clear hfz80_0
         try clear hfz80_1
         try clear hfz85_0
         try clear hfz85_1
         try clear hfz92_0
         try clear hfz92_1
         try clear hfz97_0
         try clear hfz97_1
         obtain ⟨kq, x82_107, rfl, HA, HJ107, HO_119000, HO_124000, HO_129000, HO_135000, BK101, BK102, BK118, BK123, BK128, BK134, HB⟩ := hcut
         have hl124000_107 := (Kd.R_reads' HO_124000.out).1
         rw [hl124000_107] at HO_124000
         (try simp only [hl124000_107])
         (try simp only [hl124000_107] at BK101)
         (try simp only [hl124000_107] at BK102)
         (try simp only [hl124000_107] at BK118)
         (try simp only [hl124000_107] at BK123)
         (try simp only [hl124000_107] at BK128)
         (try simp only [hl124000_107] at BK134)
         (try simp only [hl124000_107] at HO_119000)
         (try simp only [hl124000_107] at HO_129000)
         (try simp only [hl124000_107] at HO_135000)
         have hl129000_107 := (Kd.R_reads' HO_129000.out).1
         rw [hl129000_107] at HO_129000
         (try simp only [hl129000_107])
         (try simp only [hl129000_107] at BK101)
         (try simp only [hl129000_107] at BK102)
         (try simp only [hl129000_107] at BK118)
         (try simp only [hl129000_107] at BK123)
         (try simp only [hl129000_107] at BK128)
         (try simp only [hl129000_107] at BK134)
         (try simp only [hl129000_107] at HO_119000)
         (try simp only [hl129000_107] at HO_124000)
         (try simp only [hl129000_107] at HO_135000)
         cases kq with
         | zero => exact absurd HA.out (by simp [laws_FnExactDivFloats.j1])
         | succ kj107 =>
          have H := HA.out; clear HA
          simp only [laws_FnExactDivFloats.j1] at H
          by_cases c157 : x82_107 = true
          ·subst c157
           have H1 : (some false) = some r := by rw [if_pos rfl] at H; exact H
           clear H; have H := H1; clear H1
           exact absurd ((Option.some.inj H).trans HT.out) (by decide)
          ·replace c157 := Bool.eq_false_iff.mpr c157
           subst c157
           have H1 : ((laws_markFloating.f kj107 t129 t132 1).bind fun bt151 => ((laws_heldFloating.f kj107 bt151.2 t132 1).bind fun t153 => (if t153 < 0 then (some false) else (if t153 = bt151.1 then ((laws_toFloating.f kj107 l0_0 a0_1).bind fun bt154 => ((laws_toFloating.f kj107 l1_0 a1_1).bind fun bt158 => ((impl_DivFloats.f kj107 bt154.1 bt154.2 bt158.1 bt158.2).bind fun bt162 => ((laws_eqFloating.f kj107 bt162.1 bt162.2.1 t113 t116).bind fun t168 => (if t168 = true then (laws_FnExactDivFloats.j2 kj107 bt151.1 (bt162.2.2 != t117) bt151.2 t132) else (laws_FnExactDivFloats.j2 kj107 bt151.1 true bt151.2 t132)))))) else (some false))))) = some r := by rw [if_neg (show ¬ (false = true) by decide)] at H; exact H
           clear H; have H := H1; clear H1
           replace H := Option.bind_eq_some_iff.mp H
           obtain ⟨⟨t151, t152⟩, A1580, H⟩ := H
           replace H : ((laws_heldFloating.f kj107 t152 t132 1).bind fun t153 => (if t153 < 0 then (some false) else (if t153 = t151 then ((laws_toFloating.f kj107 l0_0 a0_1).bind fun bt154 => ((laws_toFloating.f kj107 l1_0 a1_1).bind fun bt158 => ((impl_DivFloats.f kj107 bt154.1 bt154.2 bt158.1 bt158.2).bind fun bt162 => ((laws_eqFloating.f kj107 bt162.1 bt162.2.1 t113 t116).bind fun t168 => (if t168 = true then (laws_FnExactDivFloats.j2 kj107 t151 (bt162.2.2 != t117) t152 t132) else (laws_FnExactDivFloats.j2 kj107 t151 true t152 t132)))))) else (some false)))) = some r := H
           have A158 := am A1580; clear A1580
           replace H := Option.bind_eq_some_iff.mp H
           obtain ⟨t153, A1590, H⟩ := H
           replace H : (if t153 < 0 then (some false) else (if t153 = t151 then ((laws_toFloating.f kj107 l0_0 a0_1).bind fun bt154 => ((laws_toFloating.f kj107 l1_0 a1_1).bind fun bt158 => ((impl_DivFloats.f kj107 bt154.1 bt154.2 bt158.1 bt158.2).bind fun bt162 => ((laws_eqFloating.f kj107 bt162.1 bt162.2.1 t113 t116).bind fun t168 => (if t168 = true then (laws_FnExactDivFloats.j2 kj107 t151 (bt162.2.2 != t117) t152 t132) else (laws_FnExactDivFloats.j2 kj107 t151 true t152 t132)))))) else (some false))) = some r := H
           have A159 := am A1590; clear A1590
           by_cases c160 : t153 < 0
           ·rw [if_pos c160] at H
            have c160b0 : decide (t153 < 0) = true := decide_eq_true c160
            clear c160
            exact absurd ((Option.some.inj H).trans HT.out) (by decide)
           ·rw [if_neg c160] at H
            have c160b0 : decide (t153 < 0) = false := decide_eq_false c160
            clear c160
            by_cases c161 : t153 = t151
            ·rw [if_pos c161] at H
             have c161b0 : (t153 == t151) = true := beq_iff_eq.mpr c161
             have c161b1 : (t153 != t151) = false := bne_eq_false_iff_eq.mpr c161
             clear c161
             replace H := Option.bind_eq_some_iff.mp H
             obtain ⟨⟨t154, t157⟩, A1620, H⟩ := H
             replace H : ((laws_toFloating.f kj107 l1_0 a1_1).bind fun bt158 => ((impl_DivFloats.f kj107 t154 t157 bt158.1 bt158.2).bind fun bt162 => ((laws_eqFloating.f kj107 bt162.1 bt162.2.1 t113 t116).bind fun t168 => (if t168 = true then (laws_FnExactDivFloats.j2 kj107 t151 (bt162.2.2 != t117) t152 t132) else (laws_FnExactDivFloats.j2 kj107 t151 true t152 t132))))) = some r := H
             have A162 := am A1620; clear A1620
             replace H := Option.bind_eq_some_iff.mp H
             obtain ⟨⟨t158, t161⟩, A1630, H⟩ := H
             replace H : ((impl_DivFloats.f kj107 t154 t157 t158 t161).bind fun bt162 => ((laws_eqFloating.f kj107 bt162.1 bt162.2.1 t113 t116).bind fun t168 => (if t168 = true then (laws_FnExactDivFloats.j2 kj107 t151 (bt162.2.2 != t117) t152 t132) else (laws_FnExactDivFloats.j2 kj107 t151 true t152 t132)))) = some r := H
             have A163 := am A1630; clear A1630
             replace H := Option.bind_eq_some_iff.mp H
             obtain ⟨⟨t162, t165, t166⟩, A1640, H⟩ := H
             replace H : ((laws_eqFloating.f kj107 t162 t165 t113 t116).bind fun t168 => (if t168 = true then (laws_FnExactDivFloats.j2 kj107 t151 (t166 != t117) t152 t132) else (laws_FnExactDivFloats.j2 kj107 t151 true t152 t132))) = some r := H
             have A164 := am A1640; clear A1640; have HC165 := am H; clear H; have hnb166 := NB134_101.out; have hnc166 := NB101_134.out; have hnb167 := NB134_102.out; have hnc167 := NB102_134.out; have hnb168 := NB134_118.out; have hnc168 := NB118_134.out; have hnb169 := NB134_123.out; have hnc169 := NB123_134.out; have hnb170 := NB134_128.out; have hnc170 := NB128_134.out
             have hcz171_0 : wc.cell? ⟨gb134, 0, none⟩ = some (.slice Ao66 t129.length co66) := (blk_cell BK134.out 0).trans rfl
             have hcz171_1 : wc.cell? ⟨gb134, 1, none⟩ = some (.int .i64 t132) := (blk_cell BK134.out 1).trans rfl
             have hfz171_0 := blk_frozen BK134.out 0; have hfz171_1 := blk_frozen BK134.out 1
             try go_wp2_with (first | ((with_reducible refine gate_callee (f := 11) rfl ?_); refine goesL_ (some 85) rfl rfl Try.func11 (by kernel_rfl) rfl #[.agg #[.slice Ao66 t129.length co66, .int .i64 t132], .int .i64 1] rfl bE ?_; (with_reducible refine (laws_markFloating.calls kj107 (fun k_ => some k_ = (.slice Ao66 t129.length co66 : Value).ownBlock) (.slice Ao66 t129.length co66) t129 t132 1 t151 t152 w _ ?side1 ?side2 A158.out).mono ?_); (case side1 => repeat (first | (with_reducible first | exact HB.out | apply below_alloc | apply pw_below_drewN | apply below_drew1 | refine below_set ?_ GE101.out | refine below_set ?_ GE102.out | refine below_set ?_ GE118.out | refine below_set ?_ GE123.out | refine below_set ?_ GE128.out | refine below_set ?_ GE134.out) | exact HB.out)); (case side2 => exact Kd.R_tight rfl HO_135000.out); rintro e w172 ⟨rfl, hy0, hb, hkp⟩; refine ⟨_, rfl, ?_⟩; have n0_ := am (Kd.R_mono (ok' := fun k_ => some k_ ≠ (.slice Ao48 t147.length co48 : Value).ownBlock ∧ some k_ ≠ (.slice Ao57 t149.length co57 : Value).ownBlock ∧ some k_ ≠ (.slice Ao66 t129.length co66 : Value).ownBlock) (Kd.R_keptB (HO_119000.out) hkp (fun k_ hk_ hs_ => (hk_.2.2) hs_)) (fun k_ hk_ => ⟨hk_.1.1, hk_.1.2.1, hk_.1.2.2⟩)); have n1_ := am (Kd.R_mono (ok' := fun k_ => some k_ ≠ (.slice Ao41 t113.length co41 : Value).ownBlock ∧ some k_ ≠ (.slice Ao57 t149.length co57 : Value).ownBlock ∧ some k_ ≠ (.slice Ao66 t129.length co66 : Value).ownBlock) (Kd.R_keptB (HO_124000.out) hkp (fun k_ hk_ hs_ => (hk_.2.2) hs_)) (fun k_ hk_ => ⟨hk_.1.1, hk_.1.2.1, hk_.1.2.2⟩)); have n2_ := am (Kd.R_mono (ok' := fun k_ => some k_ ≠ (.slice Ao41 t113.length co41 : Value).ownBlock ∧ some k_ ≠ (.slice Ao48 t147.length co48 : Value).ownBlock ∧ some k_ ≠ (.slice Ao66 t129.length co66 : Value).ownBlock) (Kd.R_keptB (HO_129000.out) hkp (fun k_ hk_ hs_ => (hk_.2.2) hs_)) (fun k_ hk_ => ⟨hk_.1.1, hk_.1.2.1, hk_.1.2.2⟩)); have n3_ := am (Kd.R_reok rfl hy0 (fun k_ e_ => HO_135000.out.1 k_ e_)); have n4_ := am (blk_kept (bA BK101.out) hkp (fun hs_ => (fun e_ => (Kd.R_ne HO_135000.out BK101.out (by decide)) e_) hs_)); have n5_ := am (blk_kept (bA BK102.out) hkp (fun hs_ => (fun e_ => (Kd.R_ne HO_135000.out BK102.out (by decide)) e_) hs_)); have n6_ := am (blk_kept (bA BK118.out) hkp (fun hs_ => (fun e_ => (Kd.R_ne HO_135000.out BK118.out (by decide)) e_) hs_)); have n7_ := am (blk_kept (bA BK123.out) hkp (fun hs_ => (fun e_ => (Kd.R_ne HO_135000.out BK123.out (by decide)) e_) hs_)); have n8_ := am (blk_kept (bA BK128.out) hkp (fun hs_ => (fun e_ => (Kd.R_ne HO_135000.out BK128.out (by decide)) e_) hs_)); have n9_ := am (blk_kept (bA BK134.out) hkp (fun hs_ => (fun e_ => (Kd.R_ne HO_135000.out BK134.out (by decide)) e_) hs_)); have n10_ := am (hb); clear HO_119000; clear HO_124000; clear HO_129000; clear HO_135000; clear BK101; clear BK102; clear BK118; clear BK123; clear BK128; clear BK134; clear HB; have HO_119000 := n0_; have HO_124000 := n1_; have HO_129000 := n2_; have HO_135000 := n3_; have BK101 := n4_; have BK102 := n5_; have BK118 := n6_; have BK123 := n7_; have BK128 := n8_; have BK134 := n9_; have HB := n10_; clear n0_ n1_ n2_ n3_ n4_ n5_ n6_ n7_ n8_ n9_ n10_; (try clear hb); (try clear hkp); (try clear hy0); have hcz173_0 : w172.cell? ⟨gb134, 0, none⟩ = some (.slice Ao66 t129.length co66) := (blk_cell BK134.out 0).trans rfl; have hcz173_1 : w172.cell? ⟨gb134, 1, none⟩ = some (.int .i64 t132) := (blk_cell BK134.out 1).trans rfl; have hfz173_0 := blk_frozen BK134.out 0; have hfz173_1 := blk_frozen BK134.out 1) | ((with_reducible refine gate_callee (f := 12) rfl ?_); refine goesL_ (some 88) rfl rfl Try.func12 (by kernel_rfl) rfl #[.agg #[.slice Ao66 t152.length co66, .int .i64 t132], .int .i64 1] rfl (by (try simp only [List.map_toArray, List.map_cons, List.map_nil]); first | done | (rw [show t152.length = t129.length from (Kd.R_reads' HO_135000.out).1.symm] <;> rfl) | rfl | (simp only [List.length_drop, List.length_take]; rfl)) ?_; (with_reducible refine (laws_heldFloating.calls kj107 _ _ t152 t132 1 t153 _ ?side1 ?side2 A159.out).mono ?_); (case side1 => exact bD ((Kd.R_reads' HO_135000.out).2.2)); (case side2 => rw [show t152.length = t129.length from (Kd.R_reads' HO_135000.out).1.symm]; exact (Kd.R_reads' HO_135000.out).2.1); rintro e w174 ⟨rfl, hb⟩; refine ⟨_, rfl, ?_⟩; have n0_ := am (Kd.R_below (bC HO_119000.out) hb); have n1_ := am (Kd.R_below (bC HO_124000.out) hb); have n2_ := am (Kd.R_below (bC HO_129000.out) hb); have n3_ := am (Kd.R_below (bC HO_135000.out) hb); have n4_ := am (blk_below (bA BK101.out) hb); have n5_ := am (blk_below (bA BK102.out) hb); have n6_ := am (blk_below (bA BK118.out) hb); have n7_ := am (blk_below (bA BK123.out) hb); have n8_ := am (blk_below (bA BK128.out) hb); have n9_ := am (blk_below (bA BK134.out) hb); have n10_ := am (below_step (bB HB.out) hb); clear HO_119000; clear HO_124000; clear HO_129000; clear HO_135000; clear BK101; clear BK102; clear BK118; clear BK123; clear BK128; clear BK134; clear HB; have HO_119000 := n0_; have HO_124000 := n1_; have HO_129000 := n2_; have HO_135000 := n3_; have BK101 := n4_; have BK102 := n5_; have BK118 := n6_; have BK123 := n7_; have BK128 := n8_; have BK134 := n9_; have HB := n10_; clear n0_ n1_ n2_ n3_ n4_ n5_ n6_ n7_ n8_ n9_ n10_; (try clear hb); (try clear hb2); (try clear hk); (try clear hi)))
             have n0_ := am (Kd.R_drew HO_119000.out); have n1_ := am (Kd.R_drew HO_124000.out); have n2_ := am (Kd.R_drew HO_129000.out); have n3_ := am (Kd.R_drew HO_135000.out); have n4_ := am (blk_drew BK101.out); have n5_ := am (blk_drew BK102.out); have n6_ := am (blk_drew BK118.out); have n7_ := am (blk_drew BK123.out); have n8_ := am (blk_drew BK128.out); have n9_ := am (blk_drew BK134.out); have n10_ := am (below_drew1 HB.out); clear HO_119000; clear HO_124000; clear HO_129000; clear HO_135000; clear BK101; clear BK102; clear BK118; clear BK123; clear BK128; clear BK134; clear HB; have HO_119000 := n0_; have HO_124000 := n1_; have HO_129000 := n2_; have HO_135000 := n3_; have BK101 := n4_; have BK102 := n5_; have BK118 := n6_; have BK123 := n7_; have BK128 := n8_; have BK134 := n9_; have HB := n10_; clear n0_ n1_ n2_ n3_ n4_ n5_ n6_ n7_ n8_ n9_ n10_
             refine start_ (n := 11) (S := fun w' => w'.cell? ⟨gb101, 0, none⟩ = some (.slice A0_0 l0_0.length c0_0) ∧ w'.cell? ⟨gb101, 1, none⟩ = some (.int .i64 a0_1) ∧ w'.cell? ⟨gb102, 0, none⟩ = some (.slice A1_0 l1_0.length c1_0) ∧ w'.cell? ⟨gb102, 1, none⟩ = some (.int .i64 a1_1)) (ds := []) q3_0 (by kernel_rfl) rfl rfl ⟨(blk_cell BK101.out 0).trans rfl, (blk_cell BK101.out 1).trans rfl, (blk_cell BK102.out 0).trans rfl, (blk_cell BK102.out 1).trans rfl⟩ (fun hHeld => ?_); refine with_tabW laws_FnExactDivFloats.tab31 laws_FnExactDivFloats.bits31 (fun HT_ HW_ => ?_)
             generalize w174.drew = w175 at HO_119000 HO_124000 HO_129000 HO_135000 BK101 BK102 BK118 BK123 BK128 BK134 HB hHeld ⊢
             refine take_ (i := 0) (N := some 95) (v := ?_) (a' := ?_) q3_1 rfl rfl (take_ofW HT_.out HW_.out (by kernel_rfl)) (fun _ _ _ h => h) (Or.inl ⟨by rfl, ?_⟩) hHeld ?_ ?_; rotate_left
             ·rintro w' ⟨s0, s1, s2, s3⟩
              go_simp; with_reducible rfl
             rotate_left
             ·simp only [Act.put, qa3, qb3, qc3, i64_w, i32_w]
              rfl
             refine take_ (i := 2) (N := some 97) (v := ?_) (a' := ?_) q3_2 rfl rfl (take_ofW HT_.out HW_.out (by kernel_rfl)) (fun _ _ _ h => h) (Or.inl ⟨by rfl, ?_⟩) hHeld ?_ ?_; rotate_left
             ·rintro w' ⟨s0, s1, s2, s3⟩
              go_simp; with_reducible rfl
             rotate_left
             ·simp only [Act.put, qa3, qb3, qc3, i64_w, i32_w]
              rfl
             refine join_ (σ := Value × Value × Value × Nat) 2 q3_3 (fun s_ => [(96, .agg #[s_.1, .int .i64 t157]), (98, .agg #[s_.2.1, .int .i64 t161]), (99, .tuple #[.agg #[s_.2.2.1, .int .i64 t165], .bool t166]), (15, .pointer (some ⟨s_.2.2.2, 0, none⟩)), (94, .tuple #[.agg #[s_.2.2.1, .int .i64 t165], .bool t166]), (100, .agg #[s_.2.2.1, .int .i64 t165]), (101, .bool t166)]) (fun s_ w' => (w'.cell? ⟨gb101, 0, none⟩ = some (.slice A0_0 l0_0.length c0_0) ∧ w'.cell? ⟨gb101, 1, none⟩ = some (.int .i64 a0_1) ∧ w'.cell? ⟨gb102, 0, none⟩ = some (.slice A1_0 l1_0.length c1_0) ∧ w'.cell? ⟨gb102, 1, none⟩ = some (.int .i64 a1_1)) ∧ (Kd.R (Kd.int .i64) 3 w' w.heap.size (fun k_ => some k_ ≠ (s_.2.1 : Value).ownBlock ∧ some k_ ≠ (s_.2.2.1 : Value).ownBlock ∧ some k_ ≠ (.slice Ao41 t113.length co41 : Value).ownBlock ∧ some k_ ≠ (.slice Ao48 t147.length co48 : Value).ownBlock ∧ some k_ ≠ (.slice Ao57 t149.length co57 : Value).ownBlock ∧ some k_ ≠ (.slice Ao66 t129.length co66 : Value).ownBlock) s_.1 t154) ∧ (Kd.R (Kd.int .i64) 3 w' w.heap.size (fun k_ => some k_ ≠ (s_.1 : Value).ownBlock ∧ some k_ ≠ (s_.2.2.1 : Value).ownBlock ∧ some k_ ≠ (.slice Ao41 t113.length co41 : Value).ownBlock ∧ some k_ ≠ (.slice Ao48 t147.length co48 : Value).ownBlock ∧ some k_ ≠ (.slice Ao57 t149.length co57 : Value).ownBlock ∧ some k_ ≠ (.slice Ao66 t129.length co66 : Value).ownBlock) s_.2.1 t158) ∧ (Kd.R (Kd.int .i64) 3 w' w.heap.size (fun k_ => some k_ ≠ (s_.1 : Value).ownBlock ∧ some k_ ≠ (s_.2.1 : Value).ownBlock ∧ some k_ ≠ (.slice Ao41 t113.length co41 : Value).ownBlock ∧ some k_ ≠ (.slice Ao48 t147.length co48 : Value).ownBlock ∧ some k_ ≠ (.slice Ao57 t149.length co57 : Value).ownBlock ∧ some k_ ≠ (.slice Ao66 t129.length co66 : Value).ownBlock) s_.2.2.1 t162) ∧ (Kd.R (Kd.int .i64) 3 w' w.heap.size (fun k_ => some k_ ≠ (s_.1 : Value).ownBlock ∧ some k_ ≠ (s_.2.1 : Value).ownBlock ∧ some k_ ≠ (s_.2.2.1 : Value).ownBlock ∧ some k_ ≠ (.slice Ao48 t147.length co48 : Value).ownBlock ∧ some k_ ≠ (.slice Ao57 t149.length co57 : Value).ownBlock ∧ some k_ ≠ (.slice Ao66 t129.length co66 : Value).ownBlock) (.slice Ao41 t113.length co41) t113) ∧ (Kd.R (Kd.int .i64) 3 w' w.heap.size (fun k_ => some k_ ≠ (s_.1 : Value).ownBlock ∧ some k_ ≠ (s_.2.1 : Value).ownBlock ∧ some k_ ≠ (s_.2.2.1 : Value).ownBlock ∧ some k_ ≠ (.slice Ao41 t113.length co41 : Value).ownBlock ∧ some k_ ≠ (.slice Ao57 t149.length co57 : Value).ownBlock ∧ some k_ ≠ (.slice Ao66 t129.length co66 : Value).ownBlock) (.slice Ao48 t147.length co48) t147) ∧ (Kd.R (Kd.int .i64) 3 w' w.heap.size (fun k_ => some k_ ≠ (s_.1 : Value).ownBlock ∧ some k_ ≠ (s_.2.1 : Value).ownBlock ∧ some k_ ≠ (s_.2.2.1 : Value).ownBlock ∧ some k_ ≠ (.slice Ao41 t113.length co41 : Value).ownBlock ∧ some k_ ≠ (.slice Ao48 t147.length co48 : Value).ownBlock ∧ some k_ ≠ (.slice Ao66 t129.length co66 : Value).ownBlock) (.slice Ao57 t149.length co57) t149) ∧ (Kd.R (Kd.int .i64) 3 w' w.heap.size (fun k_ => some k_ ≠ (s_.1 : Value).ownBlock ∧ some k_ ≠ (s_.2.1 : Value).ownBlock ∧ some k_ ≠ (s_.2.2.1 : Value).ownBlock ∧ some k_ ≠ (.slice Ao41 t113.length co41 : Value).ownBlock ∧ some k_ ≠ (.slice Ao48 t147.length co48 : Value).ownBlock ∧ some k_ ≠ (.slice Ao57 t149.length co57 : Value).ownBlock) (.slice Ao66 t129.length co66) t152) ∧ (w'.heap[gb101]? = some (.cells #[.slice A0_0 l0_0.length c0_0, .int .i64 a0_1] 24 (0, 0))) ∧ (w'.heap[gb102]? = some (.cells #[.slice A1_0 l1_0.length c1_0, .int .i64 a1_1] 24 (0, 0))) ∧ (w'.heap[gb118]? = some (.cells #[.slice Ao41 t113.length co41, .int .i64 t116] 26 (0, 0))) ∧ (w'.heap[gb123]? = some (.cells #[.slice Ao48 t147.length co48, .int .i64 t122] 26 (0, 0))) ∧ (w'.heap[gb128]? = some (.cells #[.slice Ao57 t149.length co57, .int .i64 t127] 26 (0, 0))) ∧ (w'.heap[gb134]? = some (.cells #[.slice Ao66 t129.length co66, .int .i64 t132] 26 (0, 0))) ∧ (w'.heap[s_.2.2.2]? = some (.cells #[.slice none 0 0, .int .i64 0] 26 (0, 0))) ∧ (w.heap.size ≤ s_.2.2.2) ∧ (w.heap.size ≤ s_.2.2.2) ∧ (gb101 ≠ s_.2.2.2) ∧ (s_.2.2.2 ≠ gb101) ∧ (gb102 ≠ s_.2.2.2) ∧ (s_.2.2.2 ≠ gb102) ∧ (gb118 ≠ s_.2.2.2) ∧ (s_.2.2.2 ≠ gb118) ∧ (gb123 ≠ s_.2.2.2) ∧ (s_.2.2.2 ≠ gb123) ∧ (gb128 ≠ s_.2.2.2) ∧ (s_.2.2.2 ≠ gb128) ∧ (gb134 ≠ s_.2.2.2) ∧ (s_.2.2.2 ≠ gb134) ∧ (Below w.heap.size w w')) ?_ ?_; rotate_left
             ·intro hCont
              refine two_ (i := 1) (j := 8) (Ni := some 96) (Nj := some 15) q3_4 q3_5 rfl rfl rfl rfl (two_of HT_.out (by kernel_rfl)) (by decide) (by decide) (fun K hK => ?_) (fun K hK => ?_)
              ·skip
               refine goes_ Try.func8 (by kernel_rfl) rfl #[.agg #[.slice A0_0 l0_0.length c0_0, .int .i64 a0_1]] (by rfl) rfl rfl bE ?_
               with_reducible refine (laws_toFloating.calls kj107 _ _ l0_0 a0_1 t154 t157 _ ?side1 ?side2 A162.out).mono ?_
               (case side1 => exact bD ((Kd.C_below HR0_0.out HB.out)))
               (case side2 => exact HC0_0.out)
               rintro e w176 ⟨v155, rfl, ho0, hb⟩
               refine ⟨_, rfl, ?_⟩
               have n0_ := am (Kd.R_elder' (bC HO_119000.out) (Kd.R_base ho0) hb); have n1_ := am (Kd.R_elder' (bC HO_124000.out) (Kd.R_base ho0) hb); have n2_ := am (Kd.R_elder' (bC HO_129000.out) (Kd.R_base ho0) hb); have n3_ := am (Kd.R_elder' (bC HO_135000.out) (Kd.R_base ho0) hb); have n4_ := am (Kd.R_lower (Kd.R_new' (Kd.R_new' (Kd.R_new' (Kd.R_new' ho0 (Kd.R_lt (bC HO_119000.out))) (Kd.R_lt (bC HO_124000.out))) (Kd.R_lt (bC HO_129000.out))) (Kd.R_lt (bC HO_135000.out))) (below_size (bB HB.out))); have n5_ := am (blk_below (bA BK101.out) hb); have n6_ := am (blk_below (bA BK102.out) hb); have n7_ := am (blk_below (bA BK118.out) hb); have n8_ := am (blk_below (bA BK123.out) hb); have n9_ := am (blk_below (bA BK128.out) hb); have n10_ := am (blk_below (bA BK134.out) hb); have n11_ := am (below_step (bB HB.out) hb); clear HO_119000; clear HO_124000; clear HO_129000; clear HO_135000; clear BK101; clear BK102; clear BK118; clear BK123; clear BK128; clear BK134; clear HB; have HO_119000 := n0_; have HO_124000 := n1_; have HO_129000 := n2_; have HO_135000 := n3_; have HO156 := n4_; have BK101 := n5_; have BK102 := n6_; have BK118 := n7_; have BK123 := n8_; have BK128 := n9_; have BK134 := n10_; have HB := n11_; clear n0_ n1_ n2_ n3_ n4_ n5_ n6_ n7_ n8_ n9_ n10_ n11_; (try clear hb); (try clear hb2); (try clear hk); (try clear hi); (try clear ho0); clear A162
               refine hK.out _ _ ⟨(blk_cell BK101.out 0).trans rfl, (blk_cell BK101.out 1).trans rfl, (blk_cell BK102.out 0).trans rfl, (blk_cell BK102.out 1).trans rfl⟩ (fun hHeld => ?_)
               clear hK K
               refine norm_ (a' := ?_) ?_ ?_; rotate_left
               ·show Act.put _ (some 96) _ = _
                simp only [Act.put, qa3, qb3, qc3, i64_w, i32_w]
                rfl
               refine two_ (i := 3) (j := 8) (Ni := some 98) (Nj := some 15) q3_6 q3_7 rfl rfl rfl rfl (two_of HT_.out (by kernel_rfl)) (by decide) (by decide) (fun K hK => ?_) (fun K hK => ?_)
               ·skip
                refine goes_ Try.func8 (by kernel_rfl) rfl #[.agg #[.slice A1_0 l1_0.length c1_0, .int .i64 a1_1]] (by rfl) rfl rfl bE ?_
                with_reducible refine (laws_toFloating.calls kj107 _ _ l1_0 a1_1 t158 t161 _ ?side1 ?side2 A163.out).mono ?_
                (case side1 => exact bD ((Kd.C_below HR1_0.out HB.out)))
                (case side2 => exact HC1_0.out)
                rintro e w177 ⟨v159, rfl, ho0, hb⟩
                refine ⟨_, rfl, ?_⟩
                have n0_ := am (Kd.R_elder' (bC HO_119000.out) (Kd.R_base ho0) hb); have n1_ := am (Kd.R_elder' (bC HO_124000.out) (Kd.R_base ho0) hb); have n2_ := am (Kd.R_elder' (bC HO_129000.out) (Kd.R_base ho0) hb); have n3_ := am (Kd.R_elder' (bC HO_135000.out) (Kd.R_base ho0) hb); have n4_ := am (Kd.R_elder' (bC HO156.out) (Kd.R_base ho0) hb); have n5_ := am (Kd.R_lower (Kd.R_new' (Kd.R_new' (Kd.R_new' (Kd.R_new' (Kd.R_new' ho0 (Kd.R_lt (bC HO_119000.out))) (Kd.R_lt (bC HO_124000.out))) (Kd.R_lt (bC HO_129000.out))) (Kd.R_lt (bC HO_135000.out))) (Kd.R_lt (bC HO156.out))) (below_size (bB HB.out))); have n6_ := am (blk_below (bA BK101.out) hb); have n7_ := am (blk_below (bA BK102.out) hb); have n8_ := am (blk_below (bA BK118.out) hb); have n9_ := am (blk_below (bA BK123.out) hb); have n10_ := am (blk_below (bA BK128.out) hb); have n11_ := am (blk_below (bA BK134.out) hb); have n12_ := am (below_step (bB HB.out) hb); clear HO_119000; clear HO_124000; clear HO_129000; clear HO_135000; clear HO156; clear BK101; clear BK102; clear BK118; clear BK123; clear BK128; clear BK134; clear HB; have HO_119000 := n0_; have HO_124000 := n1_; have HO_129000 := n2_; have HO_135000 := n3_; have HO156 := n4_; have HO160 := n5_; have BK101 := n6_; have BK102 := n7_; have BK118 := n8_; have BK123 := n9_; have BK128 := n10_; have BK134 := n11_; have HB := n12_; clear n0_ n1_ n2_ n3_ n4_ n5_ n6_ n7_ n8_ n9_ n10_ n11_ n12_; (try clear hb); (try clear hb2); (try clear hk); (try clear hi); (try clear ho0); clear A163
                obtain ⟨Ao178, co178, eo178⟩ := Kd.R_slice HO156.out
                (first | subst eo178 | (injection eo178 with f1_ f2_ f3_; have f4_ := f1_.symm; have f5_ := f3_.symm; clear f1_ f2_ f3_; subst f4_; subst f5_))
                obtain ⟨Ao179, co179, eo179⟩ := Kd.R_slice HO160.out
                (first | subst eo179 | (injection eo179 with f1_ f2_ f3_; have f4_ := f1_.symm; have f5_ := f3_.symm; clear f1_ f2_ f3_; subst f4_; subst f5_))
                refine hK.out _ _ ⟨(blk_cell BK101.out 0).trans rfl, (blk_cell BK101.out 1).trans rfl, (blk_cell BK102.out 0).trans rfl, (blk_cell BK102.out 1).trans rfl⟩ (fun hHeld => ?_)
                clear hK K
                refine norm_ (a' := ?_) ?_ ?_; rotate_left
                ·show Act.put _ (some 98) _ = _
                 simp only [Act.put, qa3, qb3, qc3, i64_w, i32_w]
                 rfl
                refine two_ (i := 4) (j := 8) (Ni := some 99) (Nj := some 15) q3_8 q3_9 rfl rfl rfl rfl (two_of HT_.out (by kernel_rfl)) (by decide) (by decide) (fun K hK => ?_) (fun K hK => ?_)
                ·skip
                 refine goes_ Try.func9 (by kernel_rfl) rfl #[.agg #[.slice Ao178 t154.length co178, .int .i64 t157], .agg #[.slice Ao179 t158.length co179, .int .i64 t161]] (by rfl) rfl rfl bE ?_
                 with_reducible refine (impl_DivFloats.calls kj107 _ _ t154 t157 _ _ t158 t161 t162 t165 t166 _ ?side1 ?side2 ?side3 ?side4 A164.out).mono ?_
                 (case side1 => exact bD ((Kd.R_reads' HO156.out).2.2))
                 (case side2 => exact (Kd.R_reads' HO156.out).2.1)
                 (case side3 => exact bD ((Kd.R_reads' HO160.out).2.2))
                 (case side4 => exact (Kd.R_reads' HO160.out).2.1)
                 rintro e w180 ⟨v163, rfl, ho0, hb⟩
                 refine ⟨_, rfl, ?_⟩
                 have n0_ := am (Kd.R_elder' (bC HO_119000.out) (Kd.R_base ho0) hb); have n1_ := am (Kd.R_elder' (bC HO_124000.out) (Kd.R_base ho0) hb); have n2_ := am (Kd.R_elder' (bC HO_129000.out) (Kd.R_base ho0) hb); have n3_ := am (Kd.R_elder' (bC HO_135000.out) (Kd.R_base ho0) hb); have n4_ := am (Kd.R_elder' (bC HO156.out) (Kd.R_base ho0) hb); have n5_ := am (Kd.R_elder' (bC HO160.out) (Kd.R_base ho0) hb); have n6_ := am (Kd.R_lower (Kd.R_new' (Kd.R_new' (Kd.R_new' (Kd.R_new' (Kd.R_new' (Kd.R_new' ho0 (Kd.R_lt (bC HO_119000.out))) (Kd.R_lt (bC HO_124000.out))) (Kd.R_lt (bC HO_129000.out))) (Kd.R_lt (bC HO_135000.out))) (Kd.R_lt (bC HO156.out))) (Kd.R_lt (bC HO160.out))) (below_size (bB HB.out))); have n7_ := am (blk_below (bA BK101.out) hb); have n8_ := am (blk_below (bA BK102.out) hb); have n9_ := am (blk_below (bA BK118.out) hb); have n10_ := am (blk_below (bA BK123.out) hb); have n11_ := am (blk_below (bA BK128.out) hb); have n12_ := am (blk_below (bA BK134.out) hb); have n13_ := am (below_step (bB HB.out) hb); clear HO_119000; clear HO_124000; clear HO_129000; clear HO_135000; clear HO156; clear HO160; clear BK101; clear BK102; clear BK118; clear BK123; clear BK128; clear BK134; clear HB; have HO_119000 := n0_; have HO_124000 := n1_; have HO_129000 := n2_; have HO_135000 := n3_; have HO156 := n4_; have HO160 := n5_; have HO164 := n6_; have BK101 := n7_; have BK102 := n8_; have BK118 := n9_; have BK123 := n10_; have BK128 := n11_; have BK134 := n12_; have HB := n13_; clear n0_ n1_ n2_ n3_ n4_ n5_ n6_ n7_ n8_ n9_ n10_ n11_ n12_ n13_; (try clear hb); (try clear hb2); (try clear hk); (try clear hi); (try clear ho0)
                 refine hK.out _ _ ⟨(blk_cell BK101.out 0).trans rfl, (blk_cell BK101.out 1).trans rfl, (blk_cell BK102.out 0).trans rfl, (blk_cell BK102.out 1).trans rfl⟩ (fun hHeld => ?_)
                 clear hK K
                 refine norm_ (a' := ?_) ?_ ?_; rotate_left
                 ·show Act.put _ (some 99) _ = _
                  simp only [Act.put, qa3, qb3, qc3, i64_w, i32_w]
                  rfl
                 refine pure_ (i := 5) (N := some 94) (v := ?_) (a' := ?_) q3_10 rfl rfl (any_of HT_.out (by kernel_rfl)) (fun _ _ _ h => h) (Or.inl ⟨by rfl, ?_⟩) ?_ ?_; rotate_left
                 ·intro w'
                  go_simp; with_reducible rfl
                 rotate_left
                 ·simp only [Act.put, qa3, qb3, qc3, i64_w, i32_w]
                  rfl
                 refine pure_ (i := 6) (N := some 100) (v := ?_) (a' := ?_) q3_11 rfl rfl (any_of HT_.out (by kernel_rfl)) (fun _ _ _ h => h) (Or.inl ⟨by rfl, ?_⟩) ?_ ?_; rotate_left
                 ·intro w'
                  go_simp; with_reducible rfl
                 rotate_left
                 ·simp only [Act.put, qa3, qb3, qc3, i64_w, i32_w]
                  rfl
                 refine pure_ (i := 7) (N := some 101) (v := ?_) (a' := ?_) q3_12 rfl rfl (any_of HT_.out (by kernel_rfl)) (fun _ _ _ h => h) (Or.inl ⟨by rfl, ?_⟩) ?_ ?_; rotate_left
                 ·intro w'
                  go_simp; with_reducible rfl
                 rotate_left
                 ·simp only [Act.put, qa3, qb3, qc3, i64_w, i32_w]
                  rfl
                 refine one_ (i := 8) (N := some 15) q3_3 rfl rfl (one_of HT_.out (by kernel_rfl)) (by decide) (fun K hK => ?_)
                 refine box_step ?hg (N := 15) ?hd (cs := #[.slice none 0 0, .int .i64 0]) (t := 26) ?hr ?_; (case hd => rfl); (case hg => rfl); (case hr => first | (go_simp; done) | (go_simp; rfl))
                 intro gb167 hg w181 hbox hb
                 have n0_ := am (Kd.R_below (bC HO_119000.out) hb); have n1_ := am (Kd.R_below (bC HO_124000.out) hb); have n2_ := am (Kd.R_below (bC HO_129000.out) hb); have n3_ := am (Kd.R_below (bC HO_135000.out) hb); have n4_ := am (Kd.R_below (bC HO156.out) hb); have n5_ := am (Kd.R_below (bC HO160.out) hb); have n6_ := am (Kd.R_below (bC HO164.out) hb); have n7_ := am (blk_below (bA BK101.out) hb); have n8_ := am (blk_below (bA BK102.out) hb); have n9_ := am (blk_below (bA BK118.out) hb); have n10_ := am (blk_below (bA BK123.out) hb); have n11_ := am (blk_below (bA BK128.out) hb); have n12_ := am (blk_below (bA BK134.out) hb); have n13_ := am (below_step (bB HB.out) hb); have n14_ := am (hbox); have n15_ := am ((by rw [hg]; exact (below_size (bB HB.out)) : w.heap.size ≤ gb167)); have n16_ := am ((by rw [hg]; exact (below_size (bB HB.out)) : w.heap.size ≤ gb167)); have n17_ := am ((by rw [hg]; exact Nat.ne_of_lt (blk_lt (g := gb101) (o := .cells #[.slice A0_0 l0_0.length c0_0, .int .i64 a0_1] 24 (0, 0)) (bA BK101.out)) : gb101 ≠ gb167)); have n18_ := am ((by rw [hg]; exact Nat.ne_of_gt (blk_lt (g := gb101) (o := .cells #[.slice A0_0 l0_0.length c0_0, .int .i64 a0_1] 24 (0, 0)) (bA BK101.out)) : gb167 ≠ gb101)); have n19_ := am ((by rw [hg]; exact Nat.ne_of_lt (blk_lt (g := gb102) (o := .cells #[.slice A1_0 l1_0.length c1_0, .int .i64 a1_1] 24 (0, 0)) (bA BK102.out)) : gb102 ≠ gb167)); have n20_ := am ((by rw [hg]; exact Nat.ne_of_gt (blk_lt (g := gb102) (o := .cells #[.slice A1_0 l1_0.length c1_0, .int .i64 a1_1] 24 (0, 0)) (bA BK102.out)) : gb167 ≠ gb102)); have n21_ := am ((by rw [hg]; exact Nat.ne_of_lt (blk_lt (g := gb118) (o := .cells #[.slice Ao41 t113.length co41, .int .i64 t116] 26 (0, 0)) (bA BK118.out)) : gb118 ≠ gb167)); have n22_ := am ((by rw [hg]; exact Nat.ne_of_gt (blk_lt (g := gb118) (o := .cells #[.slice Ao41 t113.length co41, .int .i64 t116] 26 (0, 0)) (bA BK118.out)) : gb167 ≠ gb118)); have n23_ := am ((by rw [hg]; exact Nat.ne_of_lt (blk_lt (g := gb123) (o := .cells #[.slice Ao48 t147.length co48, .int .i64 t122] 26 (0, 0)) (bA BK123.out)) : gb123 ≠ gb167)); have n24_ := am ((by rw [hg]; exact Nat.ne_of_gt (blk_lt (g := gb123) (o := .cells #[.slice Ao48 t147.length co48, .int .i64 t122] 26 (0, 0)) (bA BK123.out)) : gb167 ≠ gb123)); have n25_ := am ((by rw [hg]; exact Nat.ne_of_lt (blk_lt (g := gb128) (o := .cells #[.slice Ao57 t149.length co57, .int .i64 t127] 26 (0, 0)) (bA BK128.out)) : gb128 ≠ gb167)); have n26_ := am ((by rw [hg]; exact Nat.ne_of_gt (blk_lt (g := gb128) (o := .cells #[.slice Ao57 t149.length co57, .int .i64 t127] 26 (0, 0)) (bA BK128.out)) : gb167 ≠ gb128)); have n27_ := am ((by rw [hg]; exact Nat.ne_of_lt (blk_lt (g := gb134) (o := .cells #[.slice Ao66 t129.length co66, .int .i64 t132] 26 (0, 0)) (bA BK134.out)) : gb134 ≠ gb167)); have n28_ := am ((by rw [hg]; exact Nat.ne_of_gt (blk_lt (g := gb134) (o := .cells #[.slice Ao66 t129.length co66, .int .i64 t132] 26 (0, 0)) (bA BK134.out)) : gb167 ≠ gb134))
                 clear HO_119000; clear HO_124000; clear HO_129000; clear HO_135000; clear HO156; clear HO160; clear HO164; clear BK101; clear BK102; clear BK118; clear BK123; clear BK128; clear BK134; clear HB; have HO_119000 := n0_; have HO_124000 := n1_; have HO_129000 := n2_; have HO_135000 := n3_; have HO156 := n4_; have HO160 := n5_; have HO164 := n6_; have BK101 := n7_; have BK102 := n8_; have BK118 := n9_; have BK123 := n10_; have BK128 := n11_; have BK134 := n12_; have HB := n13_; have BK167 := n14_; have GW167 := n15_; have GE167 := n16_; have NB101_167 := n17_; have NB167_101 := n18_; have NB102_167 := n19_; have NB167_102 := n20_; have NB118_167 := n21_; have NB167_118 := n22_; have NB123_167 := n23_; have NB167_123 := n24_; have NB128_167 := n25_; have NB167_128 := n26_; have NB134_167 := n27_; have NB167_134 := n28_; clear n0_ n1_ n2_ n3_ n4_ n5_ n6_ n7_ n8_ n9_ n10_ n11_ n12_ n13_ n14_ n15_ n16_ n17_ n18_ n19_ n20_ n21_ n22_ n23_ n24_ n25_ n26_ n27_ n28_; clear hb hbox hg
                 refine hK.out _ _ ⟨(blk_cell BK101.out 0).trans rfl, (blk_cell BK101.out 1).trans rfl, (blk_cell BK102.out 0).trans rfl, (blk_cell BK102.out 1).trans rfl⟩ (fun hHeld => ?_)
                 clear hK K
                 refine norm_ (a' := ?_) ?_ ?_; rotate_left
                 ·show Act.put _ (some 15) _ = _
                  simp only [Act.put, qa3, qb3, qc3, i64_w, i32_w]
                  rfl
                 exact norm_ (by simp only [putAll, Act.put, qa3, qb3, qc3]) (hCont (.slice Ao178 t154.length co178, .slice Ao179 t158.length co179, v163, gb167) _ ⟨hHeld, (bC (Kd.R_mono HO156.out (fun _ hk => ⟨hk.1.2, ⟨hk.2, ⟨hk.1.1.1.1.1.2, ⟨hk.1.1.1.1.2, ⟨hk.1.1.1.2, hk.1.1.2⟩⟩⟩⟩⟩))), (bC (Kd.R_mono HO160.out (fun _ hk => ⟨hk.1.2, ⟨hk.2, ⟨hk.1.1.1.1.1.2, ⟨hk.1.1.1.1.2, ⟨hk.1.1.1.2, hk.1.1.2⟩⟩⟩⟩⟩))), (bC (Kd.R_mono HO164.out (fun _ hk => ⟨hk.1.2, ⟨hk.2, ⟨hk.1.1.1.1.1.2, ⟨hk.1.1.1.1.2, ⟨hk.1.1.1.2, hk.1.1.2⟩⟩⟩⟩⟩))), (bC (Kd.R_mono HO_119000.out (fun _ hk => ⟨hk.1.1.2, ⟨hk.1.2, ⟨hk.2, ⟨hk.1.1.1.1, ⟨hk.1.1.1.2.1, hk.1.1.1.2.2⟩⟩⟩⟩⟩))), (bC (Kd.R_mono HO_124000.out (fun _ hk => ⟨hk.1.1.2, ⟨hk.1.2, ⟨hk.2, ⟨hk.1.1.1.1, ⟨hk.1.1.1.2.1, hk.1.1.1.2.2⟩⟩⟩⟩⟩))), (bC (Kd.R_mono HO_129000.out (fun _ hk => ⟨hk.1.1.2, ⟨hk.1.2, ⟨hk.2, ⟨hk.1.1.1.1, ⟨hk.1.1.1.2.1, hk.1.1.1.2.2⟩⟩⟩⟩⟩))), (bC (Kd.R_mono HO_135000.out (fun _ hk => ⟨hk.1.1.2, ⟨hk.1.2, ⟨hk.2, ⟨hk.1.1.1.1, ⟨hk.1.1.1.2.1, hk.1.1.1.2.2⟩⟩⟩⟩⟩))), (bA BK101.out), (bA BK102.out), (bA BK118.out), (bA BK123.out), (bA BK128.out), (bA BK134.out), (bA BK167.out), GW167.out, GE167.out, NB101_167.out, NB167_101.out, NB102_167.out, NB167_102.out, NB118_167.out, NB167_118.out, NB123_167.out, NB167_123.out, NB128_167.out, NB167_128.out, NB134_167.out, NB167_134.out, (bB HB.out)⟩)
                ·skip
                 refine box_step ?hg (N := 15) ?hd (cs := #[.slice none 0 0, .int .i64 0]) (t := 26) ?hr ?_; (case hd => rfl); (case hg => rfl); (case hr => first | (go_simp; done) | (go_simp; rfl))
                 intro gb167 hg w178 hbox hb
                 have n0_ := am (Kd.R_below (bC HO_119000.out) hb); have n1_ := am (Kd.R_below (bC HO_124000.out) hb); have n2_ := am (Kd.R_below (bC HO_129000.out) hb); have n3_ := am (Kd.R_below (bC HO_135000.out) hb); have n4_ := am (Kd.R_below (bC HO156.out) hb); have n5_ := am (Kd.R_below (bC HO160.out) hb); have n6_ := am (blk_below (bA BK101.out) hb); have n7_ := am (blk_below (bA BK102.out) hb); have n8_ := am (blk_below (bA BK118.out) hb); have n9_ := am (blk_below (bA BK123.out) hb); have n10_ := am (blk_below (bA BK128.out) hb); have n11_ := am (blk_below (bA BK134.out) hb); have n12_ := am (below_step (bB HB.out) hb); have n13_ := am (hbox); have n14_ := am ((by rw [hg]; exact (below_size (bB HB.out)) : w.heap.size ≤ gb167)); have n15_ := am ((by rw [hg]; exact (below_size (bB HB.out)) : w.heap.size ≤ gb167)); have n16_ := am ((by rw [hg]; exact Nat.ne_of_lt (blk_lt (g := gb101) (o := .cells #[.slice A0_0 l0_0.length c0_0, .int .i64 a0_1] 24 (0, 0)) (bA BK101.out)) : gb101 ≠ gb167)); have n17_ := am ((by rw [hg]; exact Nat.ne_of_gt (blk_lt (g := gb101) (o := .cells #[.slice A0_0 l0_0.length c0_0, .int .i64 a0_1] 24 (0, 0)) (bA BK101.out)) : gb167 ≠ gb101)); have n18_ := am ((by rw [hg]; exact Nat.ne_of_lt (blk_lt (g := gb102) (o := .cells #[.slice A1_0 l1_0.length c1_0, .int .i64 a1_1] 24 (0, 0)) (bA BK102.out)) : gb102 ≠ gb167)); have n19_ := am ((by rw [hg]; exact Nat.ne_of_gt (blk_lt (g := gb102) (o := .cells #[.slice A1_0 l1_0.length c1_0, .int .i64 a1_1] 24 (0, 0)) (bA BK102.out)) : gb167 ≠ gb102)); have n20_ := am ((by rw [hg]; exact Nat.ne_of_lt (blk_lt (g := gb118) (o := .cells #[.slice Ao41 t113.length co41, .int .i64 t116] 26 (0, 0)) (bA BK118.out)) : gb118 ≠ gb167)); have n21_ := am ((by rw [hg]; exact Nat.ne_of_gt (blk_lt (g := gb118) (o := .cells #[.slice Ao41 t113.length co41, .int .i64 t116] 26 (0, 0)) (bA BK118.out)) : gb167 ≠ gb118)); have n22_ := am ((by rw [hg]; exact Nat.ne_of_lt (blk_lt (g := gb123) (o := .cells #[.slice Ao48 t147.length co48, .int .i64 t122] 26 (0, 0)) (bA BK123.out)) : gb123 ≠ gb167)); have n23_ := am ((by rw [hg]; exact Nat.ne_of_gt (blk_lt (g := gb123) (o := .cells #[.slice Ao48 t147.length co48, .int .i64 t122] 26 (0, 0)) (bA BK123.out)) : gb167 ≠ gb123)); have n24_ := am ((by rw [hg]; exact Nat.ne_of_lt (blk_lt (g := gb128) (o := .cells #[.slice Ao57 t149.length co57, .int .i64 t127] 26 (0, 0)) (bA BK128.out)) : gb128 ≠ gb167)); have n25_ := am ((by rw [hg]; exact Nat.ne_of_gt (blk_lt (g := gb128) (o := .cells #[.slice Ao57 t149.length co57, .int .i64 t127] 26 (0, 0)) (bA BK128.out)) : gb167 ≠ gb128)); have n26_ := am ((by rw [hg]; exact Nat.ne_of_lt (blk_lt (g := gb134) (o := .cells #[.slice Ao66 t129.length co66, .int .i64 t132] 26 (0, 0)) (bA BK134.out)) : gb134 ≠ gb167)); have n27_ := am ((by rw [hg]; exact Nat.ne_of_gt (blk_lt (g := gb134) (o := .cells #[.slice Ao66 t129.length co66, .int .i64 t132] 26 (0, 0)) (bA BK134.out)) : gb167 ≠ gb134)); clear HO_119000; clear HO_124000; clear HO_129000
                 clear HO_135000; clear HO156; clear HO160; clear BK101; clear BK102; clear BK118; clear BK123; clear BK128; clear BK134; clear HB; have HO_119000 := n0_; have HO_124000 := n1_; have HO_129000 := n2_; have HO_135000 := n3_; have HO156 := n4_; have HO160 := n5_; have BK101 := n6_; have BK102 := n7_; have BK118 := n8_; have BK123 := n9_; have BK128 := n10_; have BK134 := n11_; have HB := n12_; have BK167 := n13_; have GW167 := n14_; have GE167 := n15_; have NB101_167 := n16_; have NB167_101 := n17_; have NB102_167 := n18_; have NB167_102 := n19_; have NB118_167 := n20_; have NB167_118 := n21_; have NB123_167 := n22_; have NB167_123 := n23_; have NB128_167 := n24_; have NB167_128 := n25_; have NB134_167 := n26_; have NB167_134 := n27_; clear n0_ n1_ n2_ n3_ n4_ n5_ n6_ n7_ n8_ n9_ n10_ n11_ n12_ n13_ n14_ n15_ n16_ n17_ n18_ n19_ n20_ n21_ n22_ n23_ n24_ n25_ n26_ n27_; clear hb hbox hg
                 obtain ⟨Ao179, co179, eo179⟩ := Kd.R_slice HO156.out
                 (first | subst eo179 | (injection eo179 with f1_ f2_ f3_; have f4_ := f1_.symm; have f5_ := f3_.symm; clear f1_ f2_ f3_; subst f4_; subst f5_))
                 obtain ⟨Ao180, co180, eo180⟩ := Kd.R_slice HO160.out
                 (first | subst eo180 | (injection eo180 with f1_ f2_ f3_; have f4_ := f1_.symm; have f5_ := f3_.symm; clear f1_ f2_ f3_; subst f4_; subst f5_))
                 refine hK.out _ _ ⟨(blk_cell BK101.out 0).trans rfl, (blk_cell BK101.out 1).trans rfl, (blk_cell BK102.out 0).trans rfl, (blk_cell BK102.out 1).trans rfl⟩ (fun hHeld => ?_)
                 clear hK K
                 refine norm_ (a' := ?_) ?_ ?_; rotate_left
                 ·show Act.put _ (some 15) _ = _
                  simp only [Act.put, qa3, qb3, qc3, i64_w, i32_w]
                  rfl
                 refine one_ (i := 4) (N := some 99) q3_13 rfl rfl (one_of HT_.out (by kernel_rfl)) (by decide) (fun K hK => ?_)
                 refine goes_ Try.func9 (by kernel_rfl) rfl #[.agg #[.slice Ao179 t154.length co179, .int .i64 t157], .agg #[.slice Ao180 t158.length co180, .int .i64 t161]] (by rfl) rfl rfl bE ?_
                 with_reducible refine (impl_DivFloats.calls kj107 _ _ t154 t157 _ _ t158 t161 t162 t165 t166 _ ?side1 ?side2 ?side3 ?side4 A164.out).mono ?_
                 (case side1 => exact bD ((Kd.R_reads' HO156.out).2.2))
                 (case side2 => exact (Kd.R_reads' HO156.out).2.1)
                 (case side3 => exact bD ((Kd.R_reads' HO160.out).2.2))
                 (case side4 => exact (Kd.R_reads' HO160.out).2.1)
                 rintro e w181 ⟨v163, rfl, ho0, hb⟩
                 refine ⟨_, rfl, ?_⟩
                 have n0_ := am (Kd.R_elder' (bC HO_119000.out) (Kd.R_base ho0) hb); have n1_ := am (Kd.R_elder' (bC HO_124000.out) (Kd.R_base ho0) hb); have n2_ := am (Kd.R_elder' (bC HO_129000.out) (Kd.R_base ho0) hb); have n3_ := am (Kd.R_elder' (bC HO_135000.out) (Kd.R_base ho0) hb); have n4_ := am (Kd.R_elder' (bC HO156.out) (Kd.R_base ho0) hb); have n5_ := am (Kd.R_elder' (bC HO160.out) (Kd.R_base ho0) hb); have n6_ := am (Kd.R_lower (Kd.R_new' (Kd.R_new' (Kd.R_new' (Kd.R_new' (Kd.R_new' (Kd.R_new' ho0 (Kd.R_lt (bC HO_119000.out))) (Kd.R_lt (bC HO_124000.out))) (Kd.R_lt (bC HO_129000.out))) (Kd.R_lt (bC HO_135000.out))) (Kd.R_lt (bC HO156.out))) (Kd.R_lt (bC HO160.out))) (below_size (bB HB.out))); have n7_ := am (blk_below (bA BK101.out) hb); have n8_ := am (blk_below (bA BK102.out) hb); have n9_ := am (blk_below (bA BK118.out) hb); have n10_ := am (blk_below (bA BK123.out) hb); have n11_ := am (blk_below (bA BK128.out) hb); have n12_ := am (blk_below (bA BK134.out) hb); have n13_ := am (blk_below (bA BK167.out) hb); have n14_ := am (below_step (bB HB.out) hb); clear HO_119000; clear HO_124000; clear HO_129000; clear HO_135000; clear HO156; clear HO160; clear BK101; clear BK102; clear BK118; clear BK123; clear BK128; clear BK134; clear BK167; clear HB; have HO_119000 := n0_; have HO_124000 := n1_; have HO_129000 := n2_; have HO_135000 := n3_; have HO156 := n4_; have HO160 := n5_; have HO164 := n6_; have BK101 := n7_; have BK102 := n8_; have BK118 := n9_; have BK123 := n10_; have BK128 := n11_; have BK134 := n12_; have BK167 := n13_; have HB := n14_; clear n0_ n1_ n2_ n3_ n4_ n5_ n6_ n7_ n8_ n9_ n10_ n11_ n12_ n13_ n14_; (try clear hb); (try clear hb2); (try clear hk); (try clear hi); (try clear ho0)
                 refine hK.out _ _ ⟨(blk_cell BK101.out 0).trans rfl, (blk_cell BK101.out 1).trans rfl, (blk_cell BK102.out 0).trans rfl, (blk_cell BK102.out 1).trans rfl⟩ (fun hHeld => ?_)
                 clear hK K
                 refine norm_ (a' := ?_) ?_ ?_; rotate_left
                 ·show Act.put _ (some 99) _ = _
                  simp only [Act.put, qa3, qb3, qc3, i64_w, i32_w]
                  rfl
                 refine pure_ (i := 5) (N := some 94) (v := ?_) (a' := ?_) q3_14 rfl rfl (any_of HT_.out (by kernel_rfl)) (fun _ _ _ h => h) (Or.inl ⟨by rfl, ?_⟩) ?_ ?_; rotate_left
                 ·intro w'
                  go_simp; with_reducible rfl
                 rotate_left
                 ·simp only [Act.put, qa3, qb3, qc3, i64_w, i32_w]
                  rfl
                 refine pure_ (i := 6) (N := some 100) (v := ?_) (a' := ?_) q3_15 rfl rfl (any_of HT_.out (by kernel_rfl)) (fun _ _ _ h => h) (Or.inl ⟨by rfl, ?_⟩) ?_ ?_; rotate_left
                 ·intro w'
                  go_simp; with_reducible rfl
                 rotate_left
                 ·simp only [Act.put, qa3, qb3, qc3, i64_w, i32_w]
                  rfl
                 refine pure_ (i := 7) (N := some 101) (v := ?_) (a' := ?_) q3_3 rfl rfl (any_of HT_.out (by kernel_rfl)) (fun _ _ _ h => h) (Or.inl ⟨by rfl, ?_⟩) ?_ ?_; rotate_left
                 ·intro w'
                  go_simp; with_reducible rfl
                 rotate_left
                 ·simp only [Act.put, qa3, qb3, qc3, i64_w, i32_w]
                  rfl
                 exact norm_ (by simp only [putAll, Act.put, qa3, qb3, qc3]) (hCont (.slice Ao179 t154.length co179, .slice Ao180 t158.length co180, v163, gb167) _ ⟨hHeld, (bC (Kd.R_mono HO156.out (fun _ hk => ⟨hk.1.2, ⟨hk.2, ⟨hk.1.1.1.1.1.2, ⟨hk.1.1.1.1.2, ⟨hk.1.1.1.2, hk.1.1.2⟩⟩⟩⟩⟩))), (bC (Kd.R_mono HO160.out (fun _ hk => ⟨hk.1.2, ⟨hk.2, ⟨hk.1.1.1.1.1.2, ⟨hk.1.1.1.1.2, ⟨hk.1.1.1.2, hk.1.1.2⟩⟩⟩⟩⟩))), (bC (Kd.R_mono HO164.out (fun _ hk => ⟨hk.1.2, ⟨hk.2, ⟨hk.1.1.1.1.1.2, ⟨hk.1.1.1.1.2, ⟨hk.1.1.1.2, hk.1.1.2⟩⟩⟩⟩⟩))), (bC (Kd.R_mono HO_119000.out (fun _ hk => ⟨hk.1.1.2, ⟨hk.1.2, ⟨hk.2, ⟨hk.1.1.1.1, ⟨hk.1.1.1.2.1, hk.1.1.1.2.2⟩⟩⟩⟩⟩))), (bC (Kd.R_mono HO_124000.out (fun _ hk => ⟨hk.1.1.2, ⟨hk.1.2, ⟨hk.2, ⟨hk.1.1.1.1, ⟨hk.1.1.1.2.1, hk.1.1.1.2.2⟩⟩⟩⟩⟩))), (bC (Kd.R_mono HO_129000.out (fun _ hk => ⟨hk.1.1.2, ⟨hk.1.2, ⟨hk.2, ⟨hk.1.1.1.1, ⟨hk.1.1.1.2.1, hk.1.1.1.2.2⟩⟩⟩⟩⟩))), (bC (Kd.R_mono HO_135000.out (fun _ hk => ⟨hk.1.1.2, ⟨hk.1.2, ⟨hk.2, ⟨hk.1.1.1.1, ⟨hk.1.1.1.2.1, hk.1.1.1.2.2⟩⟩⟩⟩⟩))), (bA BK101.out), (bA BK102.out), (bA BK118.out), (bA BK123.out), (bA BK128.out), (bA BK134.out), (bA BK167.out), GW167.out, GE167.out, NB101_167.out, NB167_101.out, NB102_167.out, NB167_102.out, NB118_167.out, NB167_118.out, NB123_167.out, NB167_123.out, NB128_167.out, NB167_128.out, NB134_167.out, NB167_134.out, (bB HB.out)⟩)
               ·skip
                refine box_step ?hg (N := 15) ?hd (cs := #[.slice none 0 0, .int .i64 0]) (t := 26) ?hr ?_; (case hd => rfl); (case hg => rfl); (case hr => first | (go_simp; done) | (go_simp; rfl))
                intro gb167 hg w177 hbox hb
                have n0_ := am (Kd.R_below (bC HO_119000.out) hb); have n1_ := am (Kd.R_below (bC HO_124000.out) hb); have n2_ := am (Kd.R_below (bC HO_129000.out) hb); have n3_ := am (Kd.R_below (bC HO_135000.out) hb); have n4_ := am (Kd.R_below (bC HO156.out) hb); have n5_ := am (blk_below (bA BK101.out) hb); have n6_ := am (blk_below (bA BK102.out) hb); have n7_ := am (blk_below (bA BK118.out) hb); have n8_ := am (blk_below (bA BK123.out) hb); have n9_ := am (blk_below (bA BK128.out) hb); have n10_ := am (blk_below (bA BK134.out) hb); have n11_ := am (below_step (bB HB.out) hb); have n12_ := am (hbox); have n13_ := am ((by rw [hg]; exact (below_size (bB HB.out)) : w.heap.size ≤ gb167)); have n14_ := am ((by rw [hg]; exact (below_size (bB HB.out)) : w.heap.size ≤ gb167)); have n15_ := am ((by rw [hg]; exact Nat.ne_of_lt (blk_lt (g := gb101) (o := .cells #[.slice A0_0 l0_0.length c0_0, .int .i64 a0_1] 24 (0, 0)) (bA BK101.out)) : gb101 ≠ gb167)); have n16_ := am ((by rw [hg]; exact Nat.ne_of_gt (blk_lt (g := gb101) (o := .cells #[.slice A0_0 l0_0.length c0_0, .int .i64 a0_1] 24 (0, 0)) (bA BK101.out)) : gb167 ≠ gb101)); have n17_ := am ((by rw [hg]; exact Nat.ne_of_lt (blk_lt (g := gb102) (o := .cells #[.slice A1_0 l1_0.length c1_0, .int .i64 a1_1] 24 (0, 0)) (bA BK102.out)) : gb102 ≠ gb167)); have n18_ := am ((by rw [hg]; exact Nat.ne_of_gt (blk_lt (g := gb102) (o := .cells #[.slice A1_0 l1_0.length c1_0, .int .i64 a1_1] 24 (0, 0)) (bA BK102.out)) : gb167 ≠ gb102)); have n19_ := am ((by rw [hg]; exact Nat.ne_of_lt (blk_lt (g := gb118) (o := .cells #[.slice Ao41 t113.length co41, .int .i64 t116] 26 (0, 0)) (bA BK118.out)) : gb118 ≠ gb167)); have n20_ := am ((by rw [hg]; exact Nat.ne_of_gt (blk_lt (g := gb118) (o := .cells #[.slice Ao41 t113.length co41, .int .i64 t116] 26 (0, 0)) (bA BK118.out)) : gb167 ≠ gb118)); have n21_ := am ((by rw [hg]; exact Nat.ne_of_lt (blk_lt (g := gb123) (o := .cells #[.slice Ao48 t147.length co48, .int .i64 t122] 26 (0, 0)) (bA BK123.out)) : gb123 ≠ gb167)); have n22_ := am ((by rw [hg]; exact Nat.ne_of_gt (blk_lt (g := gb123) (o := .cells #[.slice Ao48 t147.length co48, .int .i64 t122] 26 (0, 0)) (bA BK123.out)) : gb167 ≠ gb123)); have n23_ := am ((by rw [hg]; exact Nat.ne_of_lt (blk_lt (g := gb128) (o := .cells #[.slice Ao57 t149.length co57, .int .i64 t127] 26 (0, 0)) (bA BK128.out)) : gb128 ≠ gb167)); have n24_ := am ((by rw [hg]; exact Nat.ne_of_gt (blk_lt (g := gb128) (o := .cells #[.slice Ao57 t149.length co57, .int .i64 t127] 26 (0, 0)) (bA BK128.out)) : gb167 ≠ gb128)); have n25_ := am ((by rw [hg]; exact Nat.ne_of_lt (blk_lt (g := gb134) (o := .cells #[.slice Ao66 t129.length co66, .int .i64 t132] 26 (0, 0)) (bA BK134.out)) : gb134 ≠ gb167)); have n26_ := am ((by rw [hg]; exact Nat.ne_of_gt (blk_lt (g := gb134) (o := .cells #[.slice Ao66 t129.length co66, .int .i64 t132] 26 (0, 0)) (bA BK134.out)) : gb167 ≠ gb134)); clear HO_119000; clear HO_124000; clear HO_129000; clear HO_135000; clear HO156; clear BK101
                clear BK102; clear BK118; clear BK123; clear BK128; clear BK134; clear HB; have HO_119000 := n0_; have HO_124000 := n1_; have HO_129000 := n2_; have HO_135000 := n3_; have HO156 := n4_; have BK101 := n5_; have BK102 := n6_; have BK118 := n7_; have BK123 := n8_; have BK128 := n9_; have BK134 := n10_; have HB := n11_; have BK167 := n12_; have GW167 := n13_; have GE167 := n14_; have NB101_167 := n15_; have NB167_101 := n16_; have NB102_167 := n17_; have NB167_102 := n18_; have NB118_167 := n19_; have NB167_118 := n20_; have NB123_167 := n21_; have NB167_123 := n22_; have NB128_167 := n23_; have NB167_128 := n24_; have NB134_167 := n25_; have NB167_134 := n26_; clear n0_ n1_ n2_ n3_ n4_ n5_ n6_ n7_ n8_ n9_ n10_ n11_ n12_ n13_ n14_ n15_ n16_ n17_ n18_ n19_ n20_ n21_ n22_ n23_ n24_ n25_ n26_; clear hb hbox hg
                refine hK.out _ _ ⟨(blk_cell BK101.out 0).trans rfl, (blk_cell BK101.out 1).trans rfl, (blk_cell BK102.out 0).trans rfl, (blk_cell BK102.out 1).trans rfl⟩ (fun hHeld => ?_)
                clear hK K
                refine norm_ (a' := ?_) ?_ ?_; rotate_left
                ·show Act.put _ (some 15) _ = _
                 simp only [Act.put, qa3, qb3, qc3, i64_w, i32_w]
                 rfl
                refine one_ (i := 3) (N := some 98) q3_9 rfl rfl (one_of HT_.out (by kernel_rfl)) (by decide) (fun K hK => ?_)
                refine goes_ Try.func8 (by kernel_rfl) rfl #[.agg #[.slice A1_0 l1_0.length c1_0, .int .i64 a1_1]] (by rfl) rfl rfl bE ?_
                with_reducible refine (laws_toFloating.calls kj107 _ _ l1_0 a1_1 t158 t161 _ ?side1 ?side2 A163.out).mono ?_
                (case side1 => exact bD ((Kd.C_below HR1_0.out HB.out)))
                (case side2 => exact HC1_0.out)
                rintro e w178 ⟨v159, rfl, ho0, hb⟩
                refine ⟨_, rfl, ?_⟩
                have n0_ := am (Kd.R_elder' (bC HO_119000.out) (Kd.R_base ho0) hb); have n1_ := am (Kd.R_elder' (bC HO_124000.out) (Kd.R_base ho0) hb); have n2_ := am (Kd.R_elder' (bC HO_129000.out) (Kd.R_base ho0) hb); have n3_ := am (Kd.R_elder' (bC HO_135000.out) (Kd.R_base ho0) hb); have n4_ := am (Kd.R_elder' (bC HO156.out) (Kd.R_base ho0) hb); have n5_ := am (Kd.R_lower (Kd.R_new' (Kd.R_new' (Kd.R_new' (Kd.R_new' (Kd.R_new' ho0 (Kd.R_lt (bC HO_119000.out))) (Kd.R_lt (bC HO_124000.out))) (Kd.R_lt (bC HO_129000.out))) (Kd.R_lt (bC HO_135000.out))) (Kd.R_lt (bC HO156.out))) (below_size (bB HB.out))); have n6_ := am (blk_below (bA BK101.out) hb); have n7_ := am (blk_below (bA BK102.out) hb); have n8_ := am (blk_below (bA BK118.out) hb); have n9_ := am (blk_below (bA BK123.out) hb); have n10_ := am (blk_below (bA BK128.out) hb); have n11_ := am (blk_below (bA BK134.out) hb); have n12_ := am (blk_below (bA BK167.out) hb); have n13_ := am (below_step (bB HB.out) hb); clear HO_119000; clear HO_124000; clear HO_129000; clear HO_135000; clear HO156; clear BK101; clear BK102; clear BK118; clear BK123; clear BK128; clear BK134; clear BK167; clear HB; have HO_119000 := n0_; have HO_124000 := n1_; have HO_129000 := n2_; have HO_135000 := n3_; have HO156 := n4_; have HO160 := n5_; have BK101 := n6_; have BK102 := n7_; have BK118 := n8_; have BK123 := n9_; have BK128 := n10_; have BK134 := n11_; have BK167 := n12_; have HB := n13_; clear n0_ n1_ n2_ n3_ n4_ n5_ n6_ n7_ n8_ n9_ n10_ n11_ n12_ n13_; (try clear hb); (try clear hb2); (try clear hk); (try clear hi); (try clear ho0); clear A163
                obtain ⟨Ao179, co179, eo179⟩ := Kd.R_slice HO156.out
                (first | subst eo179 | (injection eo179 with f1_ f2_ f3_; have f4_ := f1_.symm; have f5_ := f3_.symm; clear f1_ f2_ f3_; subst f4_; subst f5_))
                obtain ⟨Ao180, co180, eo180⟩ := Kd.R_slice HO160.out
                (first | subst eo180 | (injection eo180 with f1_ f2_ f3_; have f4_ := f1_.symm; have f5_ := f3_.symm; clear f1_ f2_ f3_; subst f4_; subst f5_))
                refine hK.out _ _ ⟨(blk_cell BK101.out 0).trans rfl, (blk_cell BK101.out 1).trans rfl, (blk_cell BK102.out 0).trans rfl, (blk_cell BK102.out 1).trans rfl⟩ (fun hHeld => ?_)
                clear hK K
                refine norm_ (a' := ?_) ?_ ?_; rotate_left
                ·show Act.put _ (some 98) _ = _
                 simp only [Act.put, qa3, qb3, qc3, i64_w, i32_w]
                 rfl
                refine one_ (i := 4) (N := some 99) q3_13 rfl rfl (one_of HT_.out (by kernel_rfl)) (by decide) (fun K hK => ?_)
                refine goes_ Try.func9 (by kernel_rfl) rfl #[.agg #[.slice Ao179 t154.length co179, .int .i64 t157], .agg #[.slice Ao180 t158.length co180, .int .i64 t161]] (by rfl) rfl rfl bE ?_
                with_reducible refine (impl_DivFloats.calls kj107 _ _ t154 t157 _ _ t158 t161 t162 t165 t166 _ ?side1 ?side2 ?side3 ?side4 A164.out).mono ?_
                (case side1 => exact bD ((Kd.R_reads' HO156.out).2.2))
                (case side2 => exact (Kd.R_reads' HO156.out).2.1)
                (case side3 => exact bD ((Kd.R_reads' HO160.out).2.2))
                (case side4 => exact (Kd.R_reads' HO160.out).2.1)
                rintro e w181 ⟨v163, rfl, ho0, hb⟩
                refine ⟨_, rfl, ?_⟩
                have n0_ := am (Kd.R_elder' (bC HO_119000.out) (Kd.R_base ho0) hb); have n1_ := am (Kd.R_elder' (bC HO_124000.out) (Kd.R_base ho0) hb); have n2_ := am (Kd.R_elder' (bC HO_129000.out) (Kd.R_base ho0) hb); have n3_ := am (Kd.R_elder' (bC HO_135000.out) (Kd.R_base ho0) hb); have n4_ := am (Kd.R_elder' (bC HO156.out) (Kd.R_base ho0) hb); have n5_ := am (Kd.R_elder' (bC HO160.out) (Kd.R_base ho0) hb); have n6_ := am (Kd.R_lower (Kd.R_new' (Kd.R_new' (Kd.R_new' (Kd.R_new' (Kd.R_new' (Kd.R_new' ho0 (Kd.R_lt (bC HO_119000.out))) (Kd.R_lt (bC HO_124000.out))) (Kd.R_lt (bC HO_129000.out))) (Kd.R_lt (bC HO_135000.out))) (Kd.R_lt (bC HO156.out))) (Kd.R_lt (bC HO160.out))) (below_size (bB HB.out))); have n7_ := am (blk_below (bA BK101.out) hb); have n8_ := am (blk_below (bA BK102.out) hb); have n9_ := am (blk_below (bA BK118.out) hb); have n10_ := am (blk_below (bA BK123.out) hb); have n11_ := am (blk_below (bA BK128.out) hb); have n12_ := am (blk_below (bA BK134.out) hb); have n13_ := am (blk_below (bA BK167.out) hb); have n14_ := am (below_step (bB HB.out) hb); clear HO_119000; clear HO_124000; clear HO_129000; clear HO_135000; clear HO156; clear HO160; clear BK101; clear BK102; clear BK118; clear BK123; clear BK128; clear BK134; clear BK167; clear HB; have HO_119000 := n0_; have HO_124000 := n1_; have HO_129000 := n2_; have HO_135000 := n3_; have HO156 := n4_; have HO160 := n5_; have HO164 := n6_; have BK101 := n7_; have BK102 := n8_; have BK118 := n9_; have BK123 := n10_; have BK128 := n11_; have BK134 := n12_; have BK167 := n13_; have HB := n14_; clear n0_ n1_ n2_ n3_ n4_ n5_ n6_ n7_ n8_ n9_ n10_ n11_ n12_ n13_ n14_; (try clear hb); (try clear hb2); (try clear hk); (try clear hi); (try clear ho0)
                refine hK.out _ _ ⟨(blk_cell BK101.out 0).trans rfl, (blk_cell BK101.out 1).trans rfl, (blk_cell BK102.out 0).trans rfl, (blk_cell BK102.out 1).trans rfl⟩ (fun hHeld => ?_)
                clear hK K
                refine norm_ (a' := ?_) ?_ ?_; rotate_left
                ·show Act.put _ (some 99) _ = _
                 simp only [Act.put, qa3, qb3, qc3, i64_w, i32_w]
                 rfl
                refine pure_ (i := 5) (N := some 94) (v := ?_) (a' := ?_) q3_14 rfl rfl (any_of HT_.out (by kernel_rfl)) (fun _ _ _ h => h) (Or.inl ⟨by rfl, ?_⟩) ?_ ?_; rotate_left
                ·intro w'
                 go_simp; with_reducible rfl
                rotate_left
                ·simp only [Act.put, qa3, qb3, qc3, i64_w, i32_w]
                 rfl
                refine pure_ (i := 6) (N := some 100) (v := ?_) (a' := ?_) q3_15 rfl rfl (any_of HT_.out (by kernel_rfl)) (fun _ _ _ h => h) (Or.inl ⟨by rfl, ?_⟩) ?_ ?_; rotate_left
                ·intro w'
                 go_simp; with_reducible rfl
                rotate_left
                ·simp only [Act.put, qa3, qb3, qc3, i64_w, i32_w]
                 rfl
                refine pure_ (i := 7) (N := some 101) (v := ?_) (a' := ?_) q3_3 rfl rfl (any_of HT_.out (by kernel_rfl)) (fun _ _ _ h => h) (Or.inl ⟨by rfl, ?_⟩) ?_ ?_; rotate_left
                ·intro w'
                 go_simp; with_reducible rfl
                rotate_left
                ·simp only [Act.put, qa3, qb3, qc3, i64_w, i32_w]
                 rfl
                exact norm_ (by simp only [putAll, Act.put, qa3, qb3, qc3]) (hCont (.slice Ao179 t154.length co179, .slice Ao180 t158.length co180, v163, gb167) _ ⟨hHeld, (bC (Kd.R_mono HO156.out (fun _ hk => ⟨hk.1.2, ⟨hk.2, ⟨hk.1.1.1.1.1.2, ⟨hk.1.1.1.1.2, ⟨hk.1.1.1.2, hk.1.1.2⟩⟩⟩⟩⟩))), (bC (Kd.R_mono HO160.out (fun _ hk => ⟨hk.1.2, ⟨hk.2, ⟨hk.1.1.1.1.1.2, ⟨hk.1.1.1.1.2, ⟨hk.1.1.1.2, hk.1.1.2⟩⟩⟩⟩⟩))), (bC (Kd.R_mono HO164.out (fun _ hk => ⟨hk.1.2, ⟨hk.2, ⟨hk.1.1.1.1.1.2, ⟨hk.1.1.1.1.2, ⟨hk.1.1.1.2, hk.1.1.2⟩⟩⟩⟩⟩))), (bC (Kd.R_mono HO_119000.out (fun _ hk => ⟨hk.1.1.2, ⟨hk.1.2, ⟨hk.2, ⟨hk.1.1.1.1, ⟨hk.1.1.1.2.1, hk.1.1.1.2.2⟩⟩⟩⟩⟩))), (bC (Kd.R_mono HO_124000.out (fun _ hk => ⟨hk.1.1.2, ⟨hk.1.2, ⟨hk.2, ⟨hk.1.1.1.1, ⟨hk.1.1.1.2.1, hk.1.1.1.2.2⟩⟩⟩⟩⟩))), (bC (Kd.R_mono HO_129000.out (fun _ hk => ⟨hk.1.1.2, ⟨hk.1.2, ⟨hk.2, ⟨hk.1.1.1.1, ⟨hk.1.1.1.2.1, hk.1.1.1.2.2⟩⟩⟩⟩⟩))), (bC (Kd.R_mono HO_135000.out (fun _ hk => ⟨hk.1.1.2, ⟨hk.1.2, ⟨hk.2, ⟨hk.1.1.1.1, ⟨hk.1.1.1.2.1, hk.1.1.1.2.2⟩⟩⟩⟩⟩))), (bA BK101.out), (bA BK102.out), (bA BK118.out), (bA BK123.out), (bA BK128.out), (bA BK134.out), (bA BK167.out), GW167.out, GE167.out, NB101_167.out, NB167_101.out, NB102_167.out, NB167_102.out, NB118_167.out, NB167_118.out, NB123_167.out, NB167_123.out, NB128_167.out, NB167_128.out, NB134_167.out, NB167_134.out, (bB HB.out)⟩)
              ·skip
               refine box_step ?hg (N := 15) ?hd (cs := #[.slice none 0 0, .int .i64 0]) (t := 26) ?hr ?_; (case hd => rfl); (case hg => rfl); (case hr => first | (go_simp; done) | (go_simp; rfl))
               intro gb167 hg w176 hbox hb
               have n0_ := am (Kd.R_below (bC HO_119000.out) hb); have n1_ := am (Kd.R_below (bC HO_124000.out) hb); have n2_ := am (Kd.R_below (bC HO_129000.out) hb); have n3_ := am (Kd.R_below (bC HO_135000.out) hb); have n4_ := am (blk_below (bA BK101.out) hb); have n5_ := am (blk_below (bA BK102.out) hb); have n6_ := am (blk_below (bA BK118.out) hb); have n7_ := am (blk_below (bA BK123.out) hb); have n8_ := am (blk_below (bA BK128.out) hb); have n9_ := am (blk_below (bA BK134.out) hb); have n10_ := am (below_step (bB HB.out) hb); have n11_ := am (hbox); have n12_ := am ((by rw [hg]; exact (below_size (bB HB.out)) : w.heap.size ≤ gb167)); have n13_ := am ((by rw [hg]; exact (below_size (bB HB.out)) : w.heap.size ≤ gb167)); have n14_ := am ((by rw [hg]; exact Nat.ne_of_lt (blk_lt (g := gb101) (o := .cells #[.slice A0_0 l0_0.length c0_0, .int .i64 a0_1] 24 (0, 0)) (bA BK101.out)) : gb101 ≠ gb167)); have n15_ := am ((by rw [hg]; exact Nat.ne_of_gt (blk_lt (g := gb101) (o := .cells #[.slice A0_0 l0_0.length c0_0, .int .i64 a0_1] 24 (0, 0)) (bA BK101.out)) : gb167 ≠ gb101)); have n16_ := am ((by rw [hg]; exact Nat.ne_of_lt (blk_lt (g := gb102) (o := .cells #[.slice A1_0 l1_0.length c1_0, .int .i64 a1_1] 24 (0, 0)) (bA BK102.out)) : gb102 ≠ gb167)); have n17_ := am ((by rw [hg]; exact Nat.ne_of_gt (blk_lt (g := gb102) (o := .cells #[.slice A1_0 l1_0.length c1_0, .int .i64 a1_1] 24 (0, 0)) (bA BK102.out)) : gb167 ≠ gb102)); have n18_ := am ((by rw [hg]; exact Nat.ne_of_lt (blk_lt (g := gb118) (o := .cells #[.slice Ao41 t113.length co41, .int .i64 t116] 26 (0, 0)) (bA BK118.out)) : gb118 ≠ gb167)); have n19_ := am ((by rw [hg]; exact Nat.ne_of_gt (blk_lt (g := gb118) (o := .cells #[.slice Ao41 t113.length co41, .int .i64 t116] 26 (0, 0)) (bA BK118.out)) : gb167 ≠ gb118)); have n20_ := am ((by rw [hg]; exact Nat.ne_of_lt (blk_lt (g := gb123) (o := .cells #[.slice Ao48 t147.length co48, .int .i64 t122] 26 (0, 0)) (bA BK123.out)) : gb123 ≠ gb167)); have n21_ := am ((by rw [hg]; exact Nat.ne_of_gt (blk_lt (g := gb123) (o := .cells #[.slice Ao48 t147.length co48, .int .i64 t122] 26 (0, 0)) (bA BK123.out)) : gb167 ≠ gb123)); have n22_ := am ((by rw [hg]; exact Nat.ne_of_lt (blk_lt (g := gb128) (o := .cells #[.slice Ao57 t149.length co57, .int .i64 t127] 26 (0, 0)) (bA BK128.out)) : gb128 ≠ gb167)); have n23_ := am ((by rw [hg]; exact Nat.ne_of_gt (blk_lt (g := gb128) (o := .cells #[.slice Ao57 t149.length co57, .int .i64 t127] 26 (0, 0)) (bA BK128.out)) : gb167 ≠ gb128)); have n24_ := am ((by rw [hg]; exact Nat.ne_of_lt (blk_lt (g := gb134) (o := .cells #[.slice Ao66 t129.length co66, .int .i64 t132] 26 (0, 0)) (bA BK134.out)) : gb134 ≠ gb167)); have n25_ := am ((by rw [hg]; exact Nat.ne_of_gt (blk_lt (g := gb134) (o := .cells #[.slice Ao66 t129.length co66, .int .i64 t132] 26 (0, 0)) (bA BK134.out)) : gb167 ≠ gb134)); clear HO_119000; clear HO_124000; clear HO_129000; clear HO_135000; clear BK101; clear BK102; clear BK118; clear BK123; clear BK128; clear BK134
               clear HB; have HO_119000 := n0_; have HO_124000 := n1_; have HO_129000 := n2_; have HO_135000 := n3_; have BK101 := n4_; have BK102 := n5_; have BK118 := n6_; have BK123 := n7_; have BK128 := n8_; have BK134 := n9_; have HB := n10_; have BK167 := n11_; have GW167 := n12_; have GE167 := n13_; have NB101_167 := n14_; have NB167_101 := n15_; have NB102_167 := n16_; have NB167_102 := n17_; have NB118_167 := n18_; have NB167_118 := n19_; have NB123_167 := n20_; have NB167_123 := n21_; have NB128_167 := n22_; have NB167_128 := n23_; have NB134_167 := n24_; have NB167_134 := n25_; clear n0_ n1_ n2_ n3_ n4_ n5_ n6_ n7_ n8_ n9_ n10_ n11_ n12_ n13_ n14_ n15_ n16_ n17_ n18_ n19_ n20_ n21_ n22_ n23_ n24_ n25_; clear hb hbox hg
               refine hK.out _ _ ⟨(blk_cell BK101.out 0).trans rfl, (blk_cell BK101.out 1).trans rfl, (blk_cell BK102.out 0).trans rfl, (blk_cell BK102.out 1).trans rfl⟩ (fun hHeld => ?_)
               clear hK K
               refine norm_ (a' := ?_) ?_ ?_; rotate_left
               ·show Act.put _ (some 15) _ = _
                simp only [Act.put, qa3, qb3, qc3, i64_w, i32_w]
                rfl
               refine one_ (i := 1) (N := some 96) q3_7 rfl rfl (one_of HT_.out (by kernel_rfl)) (by decide) (fun K hK => ?_)
               refine goes_ Try.func8 (by kernel_rfl) rfl #[.agg #[.slice A0_0 l0_0.length c0_0, .int .i64 a0_1]] (by rfl) rfl rfl bE ?_
               with_reducible refine (laws_toFloating.calls kj107 _ _ l0_0 a0_1 t154 t157 _ ?side1 ?side2 A162.out).mono ?_
               (case side1 => exact bD ((Kd.C_below HR0_0.out HB.out)))
               (case side2 => exact HC0_0.out)
               rintro e w177 ⟨v155, rfl, ho0, hb⟩
               refine ⟨_, rfl, ?_⟩
               have n0_ := am (Kd.R_elder' (bC HO_119000.out) (Kd.R_base ho0) hb); have n1_ := am (Kd.R_elder' (bC HO_124000.out) (Kd.R_base ho0) hb); have n2_ := am (Kd.R_elder' (bC HO_129000.out) (Kd.R_base ho0) hb); have n3_ := am (Kd.R_elder' (bC HO_135000.out) (Kd.R_base ho0) hb); have n4_ := am (Kd.R_lower (Kd.R_new' (Kd.R_new' (Kd.R_new' (Kd.R_new' ho0 (Kd.R_lt (bC HO_119000.out))) (Kd.R_lt (bC HO_124000.out))) (Kd.R_lt (bC HO_129000.out))) (Kd.R_lt (bC HO_135000.out))) (below_size (bB HB.out))); have n5_ := am (blk_below (bA BK101.out) hb); have n6_ := am (blk_below (bA BK102.out) hb); have n7_ := am (blk_below (bA BK118.out) hb); have n8_ := am (blk_below (bA BK123.out) hb); have n9_ := am (blk_below (bA BK128.out) hb); have n10_ := am (blk_below (bA BK134.out) hb); have n11_ := am (blk_below (bA BK167.out) hb); have n12_ := am (below_step (bB HB.out) hb); clear HO_119000; clear HO_124000; clear HO_129000; clear HO_135000; clear BK101; clear BK102; clear BK118; clear BK123; clear BK128; clear BK134; clear BK167; clear HB; have HO_119000 := n0_; have HO_124000 := n1_; have HO_129000 := n2_; have HO_135000 := n3_; have HO156 := n4_; have BK101 := n5_; have BK102 := n6_; have BK118 := n7_; have BK123 := n8_; have BK128 := n9_; have BK134 := n10_; have BK167 := n11_; have HB := n12_; clear n0_ n1_ n2_ n3_ n4_ n5_ n6_ n7_ n8_ n9_ n10_ n11_ n12_; (try clear hb); (try clear hb2); (try clear hk); (try clear hi); (try clear ho0); clear A162
               refine hK.out _ _ ⟨(blk_cell BK101.out 0).trans rfl, (blk_cell BK101.out 1).trans rfl, (blk_cell BK102.out 0).trans rfl, (blk_cell BK102.out 1).trans rfl⟩ (fun hHeld => ?_)
               clear hK K
               refine norm_ (a' := ?_) ?_ ?_; rotate_left
               ·show Act.put _ (some 96) _ = _
                simp only [Act.put, qa3, qb3, qc3, i64_w, i32_w]
                rfl
               refine one_ (i := 3) (N := some 98) q3_9 rfl rfl (one_of HT_.out (by kernel_rfl)) (by decide) (fun K hK => ?_)
               refine goes_ Try.func8 (by kernel_rfl) rfl #[.agg #[.slice A1_0 l1_0.length c1_0, .int .i64 a1_1]] (by rfl) rfl rfl bE ?_
               with_reducible refine (laws_toFloating.calls kj107 _ _ l1_0 a1_1 t158 t161 _ ?side1 ?side2 A163.out).mono ?_
               (case side1 => exact bD ((Kd.C_below HR1_0.out HB.out)))
               (case side2 => exact HC1_0.out)
               rintro e w178 ⟨v159, rfl, ho0, hb⟩
               refine ⟨_, rfl, ?_⟩
               have n0_ := am (Kd.R_elder' (bC HO_119000.out) (Kd.R_base ho0) hb); have n1_ := am (Kd.R_elder' (bC HO_124000.out) (Kd.R_base ho0) hb); have n2_ := am (Kd.R_elder' (bC HO_129000.out) (Kd.R_base ho0) hb); have n3_ := am (Kd.R_elder' (bC HO_135000.out) (Kd.R_base ho0) hb); have n4_ := am (Kd.R_elder' (bC HO156.out) (Kd.R_base ho0) hb); have n5_ := am (Kd.R_lower (Kd.R_new' (Kd.R_new' (Kd.R_new' (Kd.R_new' (Kd.R_new' ho0 (Kd.R_lt (bC HO_119000.out))) (Kd.R_lt (bC HO_124000.out))) (Kd.R_lt (bC HO_129000.out))) (Kd.R_lt (bC HO_135000.out))) (Kd.R_lt (bC HO156.out))) (below_size (bB HB.out))); have n6_ := am (blk_below (bA BK101.out) hb); have n7_ := am (blk_below (bA BK102.out) hb); have n8_ := am (blk_below (bA BK118.out) hb); have n9_ := am (blk_below (bA BK123.out) hb); have n10_ := am (blk_below (bA BK128.out) hb); have n11_ := am (blk_below (bA BK134.out) hb); have n12_ := am (blk_below (bA BK167.out) hb); have n13_ := am (below_step (bB HB.out) hb); clear HO_119000; clear HO_124000; clear HO_129000; clear HO_135000; clear HO156; clear BK101; clear BK102; clear BK118; clear BK123; clear BK128; clear BK134; clear BK167; clear HB; have HO_119000 := n0_; have HO_124000 := n1_; have HO_129000 := n2_; have HO_135000 := n3_; have HO156 := n4_; have HO160 := n5_; have BK101 := n6_; have BK102 := n7_; have BK118 := n8_; have BK123 := n9_; have BK128 := n10_; have BK134 := n11_; have BK167 := n12_; have HB := n13_; clear n0_ n1_ n2_ n3_ n4_ n5_ n6_ n7_ n8_ n9_ n10_ n11_ n12_ n13_; (try clear hb); (try clear hb2); (try clear hk); (try clear hi); (try clear ho0); clear A163
               obtain ⟨Ao179, co179, eo179⟩ := Kd.R_slice HO156.out
               (first | subst eo179 | (injection eo179 with f1_ f2_ f3_; have f4_ := f1_.symm; have f5_ := f3_.symm; clear f1_ f2_ f3_; subst f4_; subst f5_))
               obtain ⟨Ao180, co180, eo180⟩ := Kd.R_slice HO160.out
               (first | subst eo180 | (injection eo180 with f1_ f2_ f3_; have f4_ := f1_.symm; have f5_ := f3_.symm; clear f1_ f2_ f3_; subst f4_; subst f5_))
               refine hK.out _ _ ⟨(blk_cell BK101.out 0).trans rfl, (blk_cell BK101.out 1).trans rfl, (blk_cell BK102.out 0).trans rfl, (blk_cell BK102.out 1).trans rfl⟩ (fun hHeld => ?_)
               clear hK K
               refine norm_ (a' := ?_) ?_ ?_; rotate_left
               ·show Act.put _ (some 98) _ = _
                simp only [Act.put, qa3, qb3, qc3, i64_w, i32_w]
                rfl
               refine one_ (i := 4) (N := some 99) q3_13 rfl rfl (one_of HT_.out (by kernel_rfl)) (by decide) (fun K hK => ?_)
               refine goes_ Try.func9 (by kernel_rfl) rfl #[.agg #[.slice Ao179 t154.length co179, .int .i64 t157], .agg #[.slice Ao180 t158.length co180, .int .i64 t161]] (by rfl) rfl rfl bE ?_
               with_reducible refine (impl_DivFloats.calls kj107 _ _ t154 t157 _ _ t158 t161 t162 t165 t166 _ ?side1 ?side2 ?side3 ?side4 A164.out).mono ?_
               (case side1 => exact bD ((Kd.R_reads' HO156.out).2.2))
               (case side2 => exact (Kd.R_reads' HO156.out).2.1)
               (case side3 => exact bD ((Kd.R_reads' HO160.out).2.2))
               (case side4 => exact (Kd.R_reads' HO160.out).2.1)
               rintro e w181 ⟨v163, rfl, ho0, hb⟩
               refine ⟨_, rfl, ?_⟩
               have n0_ := am (Kd.R_elder' (bC HO_119000.out) (Kd.R_base ho0) hb); have n1_ := am (Kd.R_elder' (bC HO_124000.out) (Kd.R_base ho0) hb); have n2_ := am (Kd.R_elder' (bC HO_129000.out) (Kd.R_base ho0) hb); have n3_ := am (Kd.R_elder' (bC HO_135000.out) (Kd.R_base ho0) hb); have n4_ := am (Kd.R_elder' (bC HO156.out) (Kd.R_base ho0) hb); have n5_ := am (Kd.R_elder' (bC HO160.out) (Kd.R_base ho0) hb); have n6_ := am (Kd.R_lower (Kd.R_new' (Kd.R_new' (Kd.R_new' (Kd.R_new' (Kd.R_new' (Kd.R_new' ho0 (Kd.R_lt (bC HO_119000.out))) (Kd.R_lt (bC HO_124000.out))) (Kd.R_lt (bC HO_129000.out))) (Kd.R_lt (bC HO_135000.out))) (Kd.R_lt (bC HO156.out))) (Kd.R_lt (bC HO160.out))) (below_size (bB HB.out))); have n7_ := am (blk_below (bA BK101.out) hb); have n8_ := am (blk_below (bA BK102.out) hb); have n9_ := am (blk_below (bA BK118.out) hb); have n10_ := am (blk_below (bA BK123.out) hb); have n11_ := am (blk_below (bA BK128.out) hb); have n12_ := am (blk_below (bA BK134.out) hb); have n13_ := am (blk_below (bA BK167.out) hb); have n14_ := am (below_step (bB HB.out) hb); clear HO_119000; clear HO_124000; clear HO_129000; clear HO_135000; clear HO156; clear HO160; clear BK101; clear BK102; clear BK118; clear BK123; clear BK128; clear BK134; clear BK167; clear HB; have HO_119000 := n0_; have HO_124000 := n1_; have HO_129000 := n2_; have HO_135000 := n3_; have HO156 := n4_; have HO160 := n5_; have HO164 := n6_; have BK101 := n7_; have BK102 := n8_; have BK118 := n9_; have BK123 := n10_; have BK128 := n11_; have BK134 := n12_; have BK167 := n13_; have HB := n14_; clear n0_ n1_ n2_ n3_ n4_ n5_ n6_ n7_ n8_ n9_ n10_ n11_ n12_ n13_ n14_; (try clear hb); (try clear hb2); (try clear hk); (try clear hi); (try clear ho0)
               refine hK.out _ _ ⟨(blk_cell BK101.out 0).trans rfl, (blk_cell BK101.out 1).trans rfl, (blk_cell BK102.out 0).trans rfl, (blk_cell BK102.out 1).trans rfl⟩ (fun hHeld => ?_)
               clear hK K
               refine norm_ (a' := ?_) ?_ ?_; rotate_left
               ·show Act.put _ (some 99) _ = _
                simp only [Act.put, qa3, qb3, qc3, i64_w, i32_w]
                rfl
               refine pure_ (i := 5) (N := some 94) (v := ?_) (a' := ?_) q3_14 rfl rfl (any_of HT_.out (by kernel_rfl)) (fun _ _ _ h => h) (Or.inl ⟨by rfl, ?_⟩) ?_ ?_; rotate_left
               ·intro w'
                go_simp; with_reducible rfl
               rotate_left
               ·simp only [Act.put, qa3, qb3, qc3, i64_w, i32_w]
                rfl
               refine pure_ (i := 6) (N := some 100) (v := ?_) (a' := ?_) q3_15 rfl rfl (any_of HT_.out (by kernel_rfl)) (fun _ _ _ h => h) (Or.inl ⟨by rfl, ?_⟩) ?_ ?_; rotate_left
               ·intro w'
                go_simp; with_reducible rfl
               rotate_left
               ·simp only [Act.put, qa3, qb3, qc3, i64_w, i32_w]
                rfl
               refine pure_ (i := 7) (N := some 101) (v := ?_) (a' := ?_) q3_3 rfl rfl (any_of HT_.out (by kernel_rfl)) (fun _ _ _ h => h) (Or.inl ⟨by rfl, ?_⟩) ?_ ?_; rotate_left
               ·intro w'
                go_simp; with_reducible rfl
               rotate_left
               ·simp only [Act.put, qa3, qb3, qc3, i64_w, i32_w]
                rfl
               exact norm_ (by simp only [putAll, Act.put, qa3, qb3, qc3]) (hCont (.slice Ao179 t154.length co179, .slice Ao180 t158.length co180, v163, gb167) _ ⟨hHeld, (bC (Kd.R_mono HO156.out (fun _ hk => ⟨hk.1.2, ⟨hk.2, ⟨hk.1.1.1.1.1.2, ⟨hk.1.1.1.1.2, ⟨hk.1.1.1.2, hk.1.1.2⟩⟩⟩⟩⟩))), (bC (Kd.R_mono HO160.out (fun _ hk => ⟨hk.1.2, ⟨hk.2, ⟨hk.1.1.1.1.1.2, ⟨hk.1.1.1.1.2, ⟨hk.1.1.1.2, hk.1.1.2⟩⟩⟩⟩⟩))), (bC (Kd.R_mono HO164.out (fun _ hk => ⟨hk.1.2, ⟨hk.2, ⟨hk.1.1.1.1.1.2, ⟨hk.1.1.1.1.2, ⟨hk.1.1.1.2, hk.1.1.2⟩⟩⟩⟩⟩))), (bC (Kd.R_mono HO_119000.out (fun _ hk => ⟨hk.1.1.2, ⟨hk.1.2, ⟨hk.2, ⟨hk.1.1.1.1, ⟨hk.1.1.1.2.1, hk.1.1.1.2.2⟩⟩⟩⟩⟩))), (bC (Kd.R_mono HO_124000.out (fun _ hk => ⟨hk.1.1.2, ⟨hk.1.2, ⟨hk.2, ⟨hk.1.1.1.1, ⟨hk.1.1.1.2.1, hk.1.1.1.2.2⟩⟩⟩⟩⟩))), (bC (Kd.R_mono HO_129000.out (fun _ hk => ⟨hk.1.1.2, ⟨hk.1.2, ⟨hk.2, ⟨hk.1.1.1.1, ⟨hk.1.1.1.2.1, hk.1.1.1.2.2⟩⟩⟩⟩⟩))), (bC (Kd.R_mono HO_135000.out (fun _ hk => ⟨hk.1.1.2, ⟨hk.1.2, ⟨hk.2, ⟨hk.1.1.1.1, ⟨hk.1.1.1.2.1, hk.1.1.1.2.2⟩⟩⟩⟩⟩))), (bA BK101.out), (bA BK102.out), (bA BK118.out), (bA BK123.out), (bA BK128.out), (bA BK134.out), (bA BK167.out), GW167.out, GE167.out, NB101_167.out, NB167_101.out, NB102_167.out, NB167_102.out, NB118_167.out, NB167_118.out, NB123_167.out, NB167_123.out, NB128_167.out, NB167_128.out, NB134_167.out, NB167_134.out, (bB HB.out)⟩)
             rintro ⟨v155, v159, v163, gb167⟩ w182 ⟨hS_, h0_, h1_, h2_, h3_, h4_, h5_, h6_, h7_, h8_, h9_, h10_, h11_, h12_, h13_, h14_, h15_, h16_, h17_, h18_, h19_, h20_, h21_, h22_, h23_, h24_, h25_, h26_, h27_, h28_⟩
             have n0_ : Aside0 (Kd.R (Kd.int .i64) 3 w182 w.heap.size (fun k_ => some k_ ≠ (v159 : Value).ownBlock ∧ some k_ ≠ (v163 : Value).ownBlock ∧ some k_ ≠ (.slice Ao41 t113.length co41 : Value).ownBlock ∧ some k_ ≠ (.slice Ao48 t147.length co48 : Value).ownBlock ∧ some k_ ≠ (.slice Ao57 t149.length co57 : Value).ownBlock ∧ some k_ ≠ (.slice Ao66 t129.length co66 : Value).ownBlock) v155 t154) := ⟨h0_⟩
             have n1_ : Aside0 (Kd.R (Kd.int .i64) 3 w182 w.heap.size (fun k_ => some k_ ≠ (v155 : Value).ownBlock ∧ some k_ ≠ (v163 : Value).ownBlock ∧ some k_ ≠ (.slice Ao41 t113.length co41 : Value).ownBlock ∧ some k_ ≠ (.slice Ao48 t147.length co48 : Value).ownBlock ∧ some k_ ≠ (.slice Ao57 t149.length co57 : Value).ownBlock ∧ some k_ ≠ (.slice Ao66 t129.length co66 : Value).ownBlock) v159 t158) := ⟨h1_⟩
             have n2_ : Aside0 (Kd.R (Kd.int .i64) 3 w182 w.heap.size (fun k_ => some k_ ≠ (v155 : Value).ownBlock ∧ some k_ ≠ (v159 : Value).ownBlock ∧ some k_ ≠ (.slice Ao41 t113.length co41 : Value).ownBlock ∧ some k_ ≠ (.slice Ao48 t147.length co48 : Value).ownBlock ∧ some k_ ≠ (.slice Ao57 t149.length co57 : Value).ownBlock ∧ some k_ ≠ (.slice Ao66 t129.length co66 : Value).ownBlock) v163 t162) := ⟨h2_⟩
             have n3_ : Aside0 (Kd.R (Kd.int .i64) 3 w182 w.heap.size (fun k_ => some k_ ≠ (v155 : Value).ownBlock ∧ some k_ ≠ (v159 : Value).ownBlock ∧ some k_ ≠ (v163 : Value).ownBlock ∧ some k_ ≠ (.slice Ao48 t147.length co48 : Value).ownBlock ∧ some k_ ≠ (.slice Ao57 t149.length co57 : Value).ownBlock ∧ some k_ ≠ (.slice Ao66 t129.length co66 : Value).ownBlock) (.slice Ao41 t113.length co41) t113) := ⟨h3_⟩
             have n4_ : Aside0 (Kd.R (Kd.int .i64) 3 w182 w.heap.size (fun k_ => some k_ ≠ (v155 : Value).ownBlock ∧ some k_ ≠ (v159 : Value).ownBlock ∧ some k_ ≠ (v163 : Value).ownBlock ∧ some k_ ≠ (.slice Ao41 t113.length co41 : Value).ownBlock ∧ some k_ ≠ (.slice Ao57 t149.length co57 : Value).ownBlock ∧ some k_ ≠ (.slice Ao66 t129.length co66 : Value).ownBlock) (.slice Ao48 t147.length co48) t147) := ⟨h4_⟩
             have n5_ : Aside0 (Kd.R (Kd.int .i64) 3 w182 w.heap.size (fun k_ => some k_ ≠ (v155 : Value).ownBlock ∧ some k_ ≠ (v159 : Value).ownBlock ∧ some k_ ≠ (v163 : Value).ownBlock ∧ some k_ ≠ (.slice Ao41 t113.length co41 : Value).ownBlock ∧ some k_ ≠ (.slice Ao48 t147.length co48 : Value).ownBlock ∧ some k_ ≠ (.slice Ao66 t129.length co66 : Value).ownBlock) (.slice Ao57 t149.length co57) t149) := ⟨h5_⟩
             have n6_ : Aside0 (Kd.R (Kd.int .i64) 3 w182 w.heap.size (fun k_ => some k_ ≠ (v155 : Value).ownBlock ∧ some k_ ≠ (v159 : Value).ownBlock ∧ some k_ ≠ (v163 : Value).ownBlock ∧ some k_ ≠ (.slice Ao41 t113.length co41 : Value).ownBlock ∧ some k_ ≠ (.slice Ao48 t147.length co48 : Value).ownBlock ∧ some k_ ≠ (.slice Ao57 t149.length co57 : Value).ownBlock) (.slice Ao66 t129.length co66) t152) := ⟨h6_⟩
             have n7_ : Aside0 (w182.heap[gb101]? = some (.cells #[.slice A0_0 l0_0.length c0_0, .int .i64 a0_1] 24 (0, 0))) := ⟨h7_⟩
             have n8_ : Aside0 (w182.heap[gb102]? = some (.cells #[.slice A1_0 l1_0.length c1_0, .int .i64 a1_1] 24 (0, 0))) := ⟨h8_⟩
             have n9_ : Aside0 (w182.heap[gb118]? = some (.cells #[.slice Ao41 t113.length co41, .int .i64 t116] 26 (0, 0))) := ⟨h9_⟩
             have n10_ : Aside0 (w182.heap[gb123]? = some (.cells #[.slice Ao48 t147.length co48, .int .i64 t122] 26 (0, 0))) := ⟨h10_⟩
             have n11_ : Aside0 (w182.heap[gb128]? = some (.cells #[.slice Ao57 t149.length co57, .int .i64 t127] 26 (0, 0))) := ⟨h11_⟩
             have n12_ : Aside0 (w182.heap[gb134]? = some (.cells #[.slice Ao66 t129.length co66, .int .i64 t132] 26 (0, 0))) := ⟨h12_⟩
             have n13_ : Aside0 (w182.heap[gb167]? = some (.cells #[.slice none 0 0, .int .i64 0] 26 (0, 0))) := ⟨h13_⟩
             have n14_ : Aside0 (w.heap.size ≤ gb167) := ⟨h14_⟩
             have n15_ : Aside0 (w.heap.size ≤ gb167) := ⟨h15_⟩
             have n16_ : Aside0 (gb101 ≠ gb167) := ⟨h16_⟩
             have n17_ : Aside0 (gb167 ≠ gb101) := ⟨h17_⟩
             have n18_ : Aside0 (gb102 ≠ gb167) := ⟨h18_⟩
             have n19_ : Aside0 (gb167 ≠ gb102) := ⟨h19_⟩
             have n20_ : Aside0 (gb118 ≠ gb167) := ⟨h20_⟩
             have n21_ : Aside0 (gb167 ≠ gb118) := ⟨h21_⟩
             have n22_ : Aside0 (gb123 ≠ gb167) := ⟨h22_⟩
             have n23_ : Aside0 (gb167 ≠ gb123) := ⟨h23_⟩
             have n24_ : Aside0 (gb128 ≠ gb167) := ⟨h24_⟩
             have n25_ : Aside0 (gb167 ≠ gb128) := ⟨h25_⟩
             have n26_ : Aside0 (gb134 ≠ gb167) := ⟨h26_⟩
             have n27_ : Aside0 (gb167 ≠ gb134) := ⟨h27_⟩
             have n28_ : Aside0 (Below w.heap.size w w182) := ⟨h28_⟩
             clear HO_119000; clear HO_124000; clear HO_129000; clear HO_135000; clear BK101; clear BK102; clear BK118; clear BK123; clear BK128; clear BK134; clear HB; clear h0_ h1_ h2_ h3_ h4_ h5_ h6_ h7_ h8_ h9_ h10_ h11_ h12_ h13_ h14_ h15_ h16_ h17_ h18_ h19_ h20_ h21_ h22_ h23_ h24_ h25_ h26_ h27_ h28_; have HO156 := n0_; have HO160 := n1_; have HO164 := n2_; have HO_119000 := n3_; have HO_124000 := n4_; have HO_129000 := n5_; have HO_135000 := n6_; have BK101 := n7_; have BK102 := n8_; have BK118 := n9_; have BK123 := n10_; have BK128 := n11_; have BK134 := n12_; have BK167 := n13_; have GW167 := n14_; have GE167 := n15_; have NB101_167 := n16_; have NB167_101 := n17_; have NB102_167 := n18_; have NB167_102 := n19_; have NB118_167 := n20_; have NB167_118 := n21_; have NB123_167 := n22_; have NB167_123 := n23_; have NB128_167 := n24_; have NB167_128 := n25_; have NB134_167 := n26_; have NB167_134 := n27_; have HB := n28_; clear n0_ n1_ n2_ n3_ n4_ n5_ n6_ n7_ n8_ n9_ n10_ n11_ n12_ n13_ n14_ n15_ n16_ n17_ n18_ n19_ n20_ n21_ n22_ n23_ n24_ n25_ n26_ n27_ n28_
             have hHeld : w182.cell? ⟨gb101, 0, none⟩ = some (.slice A0_0 l0_0.length c0_0) ∧ w182.cell? ⟨gb101, 1, none⟩ = some (.int .i64 a0_1) ∧ w182.cell? ⟨gb102, 0, none⟩ = some (.slice A1_0 l1_0.length c1_0) ∧ w182.cell? ⟨gb102, 1, none⟩ = some (.int .i64 a1_1) := hS_
             obtain ⟨Ao183, co183, eo183⟩ := Kd.R_slice HO164.out
             (first | subst eo183 | (injection eo183 with f1_ f2_ f3_; have f4_ := f1_.symm; have f5_ := f3_.symm; clear f1_ f2_ f3_; subst f4_; subst f5_))
             refine norm_ (a' := ?_) ?_ ?_; rotate_left
             ·simp only [putAll, Act.put, qa3, qb3, qc3]
              rfl
             refine one_ (i := 9) (N := none) q3_16 rfl rfl (one_of HT_.out (by kernel_rfl)) (by decide) (fun K hK => ?_)
             have hs184 : w182.cell? ⟨gb167, 0, none⟩ = some (.slice none 0 0) := (blk_cell BK167.out 0).trans rfl
             have hfs184 := blk_frozen BK167.out 0; have hns184_0 := NB101_167.out; have hns184_1 := NB102_167.out; have hns184_2 := NB118_167.out; have hns184_3 := NB123_167.out; have hns184_4 := NB128_167.out; have hns184_5 := NB134_167.out; have hms184_0 := NB167_101.out; have hms184_1 := NB167_102.out; have hms184_2 := NB167_118.out; have hms184_3 := NB167_123.out; have hms184_4 := NB167_128.out; have hms184_5 := NB167_134.out
             have hs185 : w182.cell? ⟨gb167, 1, none⟩ = some (.int .i64 0) := (blk_cell BK167.out 1).trans rfl
             have hfs185 := blk_frozen BK167.out 1; have hns185_0 := NB101_167.out; have hns185_1 := NB102_167.out; have hns185_2 := NB118_167.out; have hns185_3 := NB123_167.out; have hns185_4 := NB128_167.out; have hns185_5 := NB134_167.out; have hms185_0 := NB167_101.out; have hms185_1 := NB167_102.out; have hms185_2 := NB167_118.out; have hms185_3 := NB167_123.out; have hms185_4 := NB167_128.out; have hms185_5 := NB167_134.out
             refine skip_ (w1 := ?_) (by rfl) rfl ?_ ?_; rotate_left
             ·go_simp
              rfl
             refine hK.out _ _ ⟨((cell_far (p := ⟨gb167, _, none⟩) NB101_167.out _).trans (((cell_far (p := ⟨gb167, _, none⟩) NB101_167.out _).trans (hHeld.1)))), ((cell_far (p := ⟨gb167, _, none⟩) NB101_167.out _).trans (((cell_far (p := ⟨gb167, _, none⟩) NB101_167.out _).trans (hHeld.2.1)))), ((cell_far (p := ⟨gb167, _, none⟩) NB102_167.out _).trans (((cell_far (p := ⟨gb167, _, none⟩) NB102_167.out _).trans (hHeld.2.2.1)))), ((cell_far (p := ⟨gb167, _, none⟩) NB102_167.out _).trans (((cell_far (p := ⟨gb167, _, none⟩) NB102_167.out _).trans (hHeld.2.2.2))))⟩ (fun hHeld => ?_)
             clear hK K
             refine pure_ (i := 10) (N := some 16) (v := ?_) (a' := ?_) q3_17 rfl rfl (any_of HT_.out (by kernel_rfl)) (fun _ _ _ h => h) (Or.inl ⟨by rfl, ?_⟩) ?_ ?_; rotate_left
             ·intro w'
              go_simp; with_reducible rfl
             rotate_left
             ·simp only [Act.put, qa3, qb3, qc3, i64_w, i32_w]
              rfl
             refine done_ (done_of HT_.out (by kernel_rfl)) ?_
             go_upto_region 32 with (fail)
             go_cut [110] (fun v110 wc => ∃ (kq : Nat) (x110_164 : Bool), v110 = .bool x110_164 ∧ Aside0 (laws_FnExactDivFloats.j2 kq t151 x110_164 t152 t132 = some r) ∧ Aside0 (kq ≤ kj107) ∧ Aside0 (Kd.R (Kd.int .i64) 3 wc w.heap.size (fun k_ => some k_ ≠ ((.slice Ao48 t147.length co48) : Value).ownBlock ∧ some k_ ≠ ((.slice Ao57 t149.length co57) : Value).ownBlock ∧ some k_ ≠ ((.slice Ao66 t129.length co66) : Value).ownBlock ∧ some k_ ≠ ((.slice Ao183 t162.length co183) : Value).ownBlock) (.slice Ao41 t113.length co41) t113) ∧ Aside0 (Kd.R (Kd.int .i64) 3 wc w.heap.size (fun k_ => some k_ ≠ ((.slice Ao41 t113.length co41) : Value).ownBlock ∧ some k_ ≠ ((.slice Ao57 t149.length co57) : Value).ownBlock ∧ some k_ ≠ ((.slice Ao66 t129.length co66) : Value).ownBlock ∧ some k_ ≠ ((.slice Ao183 t162.length co183) : Value).ownBlock) (.slice Ao48 t147.length co48) t147) ∧ Aside0 (Kd.R (Kd.int .i64) 3 wc w.heap.size (fun k_ => some k_ ≠ ((.slice Ao41 t113.length co41) : Value).ownBlock ∧ some k_ ≠ ((.slice Ao48 t147.length co48) : Value).ownBlock ∧ some k_ ≠ ((.slice Ao66 t129.length co66) : Value).ownBlock ∧ some k_ ≠ ((.slice Ao183 t162.length co183) : Value).ownBlock) (.slice Ao57 t149.length co57) t149) ∧ Aside0 (Kd.R (Kd.int .i64) 3 wc w.heap.size (fun k_ => some k_ ≠ ((.slice Ao41 t113.length co41) : Value).ownBlock ∧ some k_ ≠ ((.slice Ao48 t147.length co48) : Value).ownBlock ∧ some k_ ≠ ((.slice Ao57 t149.length co57) : Value).ownBlock ∧ some k_ ≠ ((.slice Ao183 t162.length co183) : Value).ownBlock) (.slice Ao66 t129.length co66) t152) ∧ Aside0 (Kd.R (Kd.int .i64) 3 wc w.heap.size (fun k_ => some k_ ≠ ((.slice Ao41 t113.length co41) : Value).ownBlock ∧ some k_ ≠ ((.slice Ao48 t147.length co48) : Value).ownBlock ∧ some k_ ≠ ((.slice Ao57 t149.length co57) : Value).ownBlock ∧ some k_ ≠ ((.slice Ao66 t129.length co66) : Value).ownBlock) (.slice Ao183 t162.length co183) t162) ∧ Aside0 (wc.heap[gb101]? = some (.cells #[(.slice A0_0 l0_0.length c0_0), .int .i64 a0_1] 24 (0, 0))) ∧ Aside0 (wc.heap[gb102]? = some (.cells #[(.slice A1_0 l1_0.length c1_0), .int .i64 a1_1] 24 (0, 0))) ∧ Aside0 (wc.heap[gb118]? = some (.cells #[(.slice Ao41 t113.length co41), .int .i64 t116] 26 (0, 0))) ∧ Aside0 (wc.heap[gb123]? = some (.cells #[(.slice Ao48 t147.length co48), .int .i64 t122] 26 (0, 0))) ∧ Aside0 (wc.heap[gb128]? = some (.cells #[(.slice Ao57 t149.length co57), .int .i64 t127] 26 (0, 0))) ∧ Aside0 (wc.heap[gb134]? = some (.cells #[(.slice Ao66 t129.length co66), .int .i64 t132] 26 (0, 0))) ∧ Aside0 (wc.heap[gb167]? = some (.cells #[(.slice Ao183 t162.length co183), .int .i64 t165] 26 (0, 0))) ∧ Aside0 (Below w.heap.size w wc))
             case first =>
              have H := HC165.out; clear HC165
              replace H := Option.bind_eq_some_iff.mp H
              obtain ⟨t168, A1860, H⟩ := H
              replace H : (if t168 = true then (laws_FnExactDivFloats.j2 kj107 t151 (t166 != t117) t152 t132) else (laws_FnExactDivFloats.j2 kj107 t151 true t152 t132)) = some r := H
              have A186 := am A1860; clear A1860
              by_cases c187 : t168 = true
              ·subst c187
               have H1 : (laws_FnExactDivFloats.j2 kj107 t151 (t166 != t117) t152 t132) = some r := by rw [if_pos rfl] at H; exact H
               clear H; have H := H1; clear H1
               have H' := am H
               clear H; have hnb188 := NB167_101.out; have hnc188 := NB101_167.out; have hnb189 := NB167_102.out; have hnc189 := NB102_167.out; have hnb190 := NB167_118.out; have hnc190 := NB118_167.out; have hnb191 := NB167_123.out; have hnc191 := NB123_167.out; have hnb192 := NB167_128.out; have hnc192 := NB128_167.out; have hnb193 := NB167_134.out; have hnc193 := NB134_167.out
               have hcz194_0 : w182.cell? ⟨gb167, 0, none⟩ = some (.slice none 0 0) := (blk_cell BK167.out 0).trans rfl
               have hcz194_1 : w182.cell? ⟨gb167, 1, none⟩ = some (.int .i64 0) := (blk_cell BK167.out 1).trans rfl
               have hfz194_0 := blk_frozen BK167.out 0; have hfz194_1 := blk_frozen BK167.out 1; have hnb195 := NB118_101.out; have hnc195 := NB101_118.out; have hnb196 := NB118_102.out; have hnc196 := NB102_118.out; have hnb197 := NB118_123.out; have hnc197 := NB123_118.out; have hnb198 := NB118_128.out; have hnc198 := NB128_118.out; have hnb199 := NB118_134.out; have hnc199 := NB134_118.out
               have hcz200_0 : w182.cell? ⟨gb118, 0, none⟩ = some (.slice Ao41 t113.length co41) := (blk_cell BK118.out 0).trans rfl
               have hcz200_1 : w182.cell? ⟨gb118, 1, none⟩ = some (.int .i64 t116) := (blk_cell BK118.out 1).trans rfl
               have hfz200_0 := blk_frozen BK118.out 0; have hfz200_1 := blk_frozen BK118.out 1
               go_wp2_with (first | ((with_reducible refine gate_callee (f := 10) rfl ?_); refine goesL_ (some 104) rfl rfl Try.func10 (by kernel_rfl) rfl #[.agg #[.slice Ao183 t162.length co183, .int .i64 t165], .agg #[.slice Ao41 t113.length co41, .int .i64 t116]] rfl bE ?_; (with_reducible refine (laws_eqFloating.calls kj107 _ _ t162 t165 _ _ t113 t116 true _ ?side1 ?side2 ?side3 ?side4 A186.out).mono ?_); (case side1 => refine (Kd.R_reads' (e := 3) (base := w.heap.size) (ok := fun k_ => (some k_ ≠ (v155 : Value).ownBlock ∧ (some k_ ≠ (v159 : Value).ownBlock ∧ (some k_ ≠ (.slice Ao41 t113.length co41 : Value).ownBlock ∧ (some k_ ≠ (.slice Ao48 t147.length co48 : Value).ownBlock ∧ (some k_ ≠ (.slice Ao57 t149.length co57 : Value).ownBlock ∧ some k_ ≠ (.slice Ao66 t129.length co66 : Value).ownBlock)))))) (n := t162.length) (c := co183) ?_).2.2; exact (bC ((Kd.R_mono (Kd.R_far (p := ⟨gb167, 1, none⟩) (Kd.R_far (p := ⟨gb167, 0, none⟩) (Kd.R_types HO164.out BK167.out (by decide)) (fun _ hk => hk.2) (.slice Ao183 t162.length co183)) (fun _ hk => hk.2) (.int .i64 t165)) (fun _ h_ => h_.1))))); (case side2 => exact (Kd.R_reads' HO164.out).2.1); (case side3 => refine (Kd.R_reads' (e := 3) (base := w.heap.size) (ok := fun k_ => (some k_ ≠ (v155 : Value).ownBlock ∧ (some k_ ≠ (v159 : Value).ownBlock ∧ (some k_ ≠ (.slice Ao183 t162.length co183 : Value).ownBlock ∧ (some k_ ≠ (.slice Ao48 t147.length co48 : Value).ownBlock ∧ (some k_ ≠ (.slice Ao57 t149.length co57 : Value).ownBlock ∧ some k_ ≠ (.slice Ao66 t129.length co66 : Value).ownBlock)))))) (n := t113.length) (c := co41) ?_).2.2; exact (bC ((Kd.R_mono (Kd.R_far (p := ⟨gb167, 1, none⟩) (Kd.R_far (p := ⟨gb167, 0, none⟩) (Kd.R_types HO_119000.out BK167.out (by decide)) (fun _ hk => hk.2) (.slice Ao183 t162.length co183)) (fun _ hk => hk.2) (.int .i64 t165)) (fun _ h_ => h_.1))))); (case side4 => exact (Kd.R_reads' HO_119000.out).2.1); rintro e w201 ⟨rfl, hb⟩; refine ⟨_, rfl, ?_⟩; have n0_ := am (Kd.R_below (bC ((Kd.R_mono (Kd.R_far (p := ⟨gb167, 1, none⟩) (Kd.R_far (p := ⟨gb167, 0, none⟩) (Kd.R_types HO_119000.out BK167.out (by decide)) (fun _ hk => hk.2) (.slice Ao183 t162.length co183)) (fun _ hk => hk.2) (.int .i64 t165)) (fun _ h_ => h_.1)))) hb); have n1_ := am (Kd.R_below (bC ((Kd.R_mono (Kd.R_far (p := ⟨gb167, 1, none⟩) (Kd.R_far (p := ⟨gb167, 0, none⟩) (Kd.R_types HO_124000.out BK167.out (by decide)) (fun _ hk => hk.2) (.slice Ao183 t162.length co183)) (fun _ hk => hk.2) (.int .i64 t165)) (fun _ h_ => h_.1)))) hb); have n2_ := am (Kd.R_below (bC ((Kd.R_mono (Kd.R_far (p := ⟨gb167, 1, none⟩) (Kd.R_far (p := ⟨gb167, 0, none⟩) (Kd.R_types HO_129000.out BK167.out (by decide)) (fun _ hk => hk.2) (.slice Ao183 t162.length co183)) (fun _ hk => hk.2) (.int .i64 t165)) (fun _ h_ => h_.1)))) hb); have n3_ := am (Kd.R_below (bC ((Kd.R_mono (Kd.R_far (p := ⟨gb167, 1, none⟩) (Kd.R_far (p := ⟨gb167, 0, none⟩) (Kd.R_types HO_135000.out BK167.out (by decide)) (fun _ hk => hk.2) (.slice Ao183 t162.length co183)) (fun _ hk => hk.2) (.int .i64 t165)) (fun _ h_ => h_.1)))) hb); have n4_ := am (Kd.R_below (bC ((Kd.R_mono (Kd.R_far (p := ⟨gb167, 1, none⟩) (Kd.R_far (p := ⟨gb167, 0, none⟩) (Kd.R_types HO156.out BK167.out (by decide)) (fun _ hk => hk.2) (.slice Ao183 t162.length co183)) (fun _ hk => hk.2) (.int .i64 t165)) (fun _ h_ => h_.1)))) hb); have n5_ := am (Kd.R_below (bC ((Kd.R_mono (Kd.R_far (p := ⟨gb167, 1, none⟩) (Kd.R_far (p := ⟨gb167, 0, none⟩) (Kd.R_types HO160.out BK167.out (by decide)) (fun _ hk => hk.2) (.slice Ao183 t162.length co183)) (fun _ hk => hk.2) (.int .i64 t165)) (fun _ h_ => h_.1)))) hb); have n6_ := am (Kd.R_below (bC ((Kd.R_mono (Kd.R_far (p := ⟨gb167, 1, none⟩) (Kd.R_far (p := ⟨gb167, 0, none⟩) (Kd.R_types HO164.out BK167.out (by decide)) (fun _ hk => hk.2) (.slice Ao183 t162.length co183)) (fun _ hk => hk.2) (.int .i64 t165)) (fun _ h_ => h_.1)))) hb); have n7_ := am (blk_below (g := gb101) (o := .cells #[.slice A0_0 l0_0.length c0_0, .int .i64 a0_1] 24 (0, 0)) (by (with_reducible repeat (first | refine blk_drewN ?_ _ | refine blk_drew ?_ | refine blk_alloc ?_ _)); refine blk_far ?_ NB101_167.out _; (with_reducible repeat (first | refine blk_drewN ?_ _ | refine blk_drew ?_ | refine blk_alloc ?_ _)); refine blk_far ?_ NB101_167.out _; (with_reducible repeat (first | refine blk_drewN ?_ _ | refine blk_drew ?_ | refine blk_alloc ?_ _)); exact BK101.out) hb); have n8_ := am (blk_below (g := gb102) (o := .cells #[.slice A1_0 l1_0.length c1_0, .int .i64 a1_1] 24 (0, 0)) (by (with_reducible repeat (first | refine blk_drewN ?_ _ | refine blk_drew ?_ | refine blk_alloc ?_ _)); refine blk_far ?_ NB102_167.out _; (with_reducible repeat (first | refine blk_drewN ?_ _ | refine blk_drew ?_ | refine blk_alloc ?_ _)); refine blk_far ?_ NB102_167.out _; (with_reducible repeat (first | refine blk_drewN ?_ _ | refine blk_drew ?_ | refine blk_alloc ?_ _)); exact BK102.out) hb); have n9_ := am (blk_below (g := gb118) (o := .cells #[.slice Ao41 t113.length co41, .int .i64 t116] 26 (0, 0)) (by (with_reducible repeat (first | refine blk_drewN ?_ _ | refine blk_drew ?_ | refine blk_alloc ?_ _)); refine blk_far ?_ NB118_167.out _; (with_reducible repeat (first | refine blk_drewN ?_ _ | refine blk_drew ?_ | refine blk_alloc ?_ _)); refine blk_far ?_ NB118_167.out _; (with_reducible repeat (first | refine blk_drewN ?_ _ | refine blk_drew ?_ | refine blk_alloc ?_ _)); exact BK118.out) hb); have n10_ := am (blk_below (g := gb123) (o := .cells #[.slice Ao48 t147.length co48, .int .i64 t122] 26 (0, 0)) (by (with_reducible repeat (first | refine blk_drewN ?_ _ | refine blk_drew ?_ | refine blk_alloc ?_ _)); refine blk_far ?_ NB123_167.out _; (with_reducible repeat (first | refine blk_drewN ?_ _ | refine blk_drew ?_ | refine blk_alloc ?_ _)); refine blk_far ?_ NB123_167.out _; (with_reducible repeat (first | refine blk_drewN ?_ _ | refine blk_drew ?_ | refine blk_alloc ?_ _)); exact BK123.out) hb); have n11_ := am (blk_below (g := gb128) (o := .cells #[.slice Ao57 t149.length co57, .int .i64 t127] 26 (0, 0)) (by (with_reducible repeat (first | refine blk_drewN ?_ _ | refine blk_drew ?_ | refine blk_alloc ?_ _)); refine blk_far ?_ NB128_167.out _; (with_reducible repeat (first | refine blk_drewN ?_ _ | refine blk_drew ?_ | refine blk_alloc ?_ _)); refine blk_far ?_ NB128_167.out _; (with_reducible repeat (first | refine blk_drewN ?_ _ | refine blk_drew ?_ | refine blk_alloc ?_ _)); exact BK128.out) hb); have n12_ := am (blk_below (g := gb134) (o := .cells #[.slice Ao66 t129.length co66, .int .i64 t132] 26 (0, 0)) (by (with_reducible repeat (first | refine blk_drewN ?_ _ | refine blk_drew ?_ | refine blk_alloc ?_ _)); refine blk_far ?_ NB134_167.out _; (with_reducible repeat (first | refine blk_drewN ?_ _ | refine blk_drew ?_ | refine blk_alloc ?_ _)); refine blk_far ?_ NB134_167.out _; (with_reducible repeat (first | refine blk_drewN ?_ _ | refine blk_drew ?_ | refine blk_alloc ?_ _)); exact BK134.out) hb); have n13_ := am (blk_below (g := gb167) (o := .cells #[.slice Ao183 t162.length co183, .int .i64 t165] 26 (0, 0)) (by (with_reducible repeat (first | refine blk_drewN ?_ _ | refine blk_drew ?_ | refine blk_alloc ?_ _)); refine blk_put (cs := #[.slice Ao183 t162.length co183, .int .i64 0]) ?_ 1 _ rfl; (with_reducible repeat (first | refine blk_drewN ?_ _ | refine blk_drew ?_ | refine blk_alloc ?_ _)); refine blk_put (cs := #[.slice none 0 0, .int .i64 0]) ?_ 0 _ rfl; (with_reducible repeat (first | refine blk_drewN ?_ _ | refine blk_drew ?_ | refine blk_alloc ?_ _)); exact BK167.out) hb); have n14_ := am (below_step (bB HB.out) hb); clear HO_119000; clear HO_124000; clear HO_129000; clear HO_135000; clear HO156; clear HO160; clear HO164; clear BK101; clear BK102; clear BK118; clear BK123; clear BK128; clear BK134; clear BK167; clear HB; have HO_119000 := n0_; have HO_124000 := n1_; have HO_129000 := n2_; have HO_135000 := n3_; have HO156 := n4_; have HO160 := n5_; have HO164 := n6_; have BK101 := n7_; have BK102 := n8_; have BK118 := n9_; have BK123 := n10_; have BK128 := n11_; have BK134 := n12_; have BK167 := n13_; have HB := n14_; clear n0_ n1_ n2_ n3_ n4_ n5_ n6_ n7_ n8_ n9_ n10_ n11_ n12_ n13_ n14_; (try clear hb); (try clear hb2); (try clear hk); (try clear hi)))
               go_meet
               case rel => exact ⟨_, ((t166 != t117)), (by first | rfl | (simp; done) | (simp [*]; done)), H', ⟨by have := HJ24.out; have := HJ107.out; first | omega | exact Nat.le_refl _⟩, ⟨by (try simp only [hl124000_107]); (try simp only [hl129000_107]); (with_reducible repeat (first | apply Kd.R_alloc | apply Kd.R_drewN | apply Kd.R_drew)); exact Kd.R_mono HO_119000.out (fun _ hk => ⟨hk.2.2.2.1, ⟨hk.2.2.2.2.1, ⟨hk.2.2.2.2.2, hk.2.2.1⟩⟩⟩)⟩, ⟨by (try simp only [hl124000_107]); (try simp only [hl129000_107]); (with_reducible repeat (first | apply Kd.R_alloc | apply Kd.R_drewN | apply Kd.R_drew)); exact Kd.R_mono HO_124000.out (fun _ hk => ⟨hk.2.2.2.1, ⟨hk.2.2.2.2.1, ⟨hk.2.2.2.2.2, hk.2.2.1⟩⟩⟩)⟩, ⟨by (try simp only [hl124000_107]); (try simp only [hl129000_107]); (with_reducible repeat (first | apply Kd.R_alloc | apply Kd.R_drewN | apply Kd.R_drew)); exact Kd.R_mono HO_129000.out (fun _ hk => ⟨hk.2.2.2.1, ⟨hk.2.2.2.2.1, ⟨hk.2.2.2.2.2, hk.2.2.1⟩⟩⟩)⟩, ⟨by (try simp only [hl124000_107]); (try simp only [hl129000_107]); (with_reducible repeat (first | apply Kd.R_alloc | apply Kd.R_drewN | apply Kd.R_drew)); exact Kd.R_mono HO_135000.out (fun _ hk => ⟨hk.2.2.2.1, ⟨hk.2.2.2.2.1, ⟨hk.2.2.2.2.2, hk.2.2.1⟩⟩⟩)⟩, ⟨by (try simp only [hl124000_107]); (try simp only [hl129000_107]); (with_reducible repeat (first | apply Kd.R_alloc | apply Kd.R_drewN | apply Kd.R_drew)); exact Kd.R_mono HO164.out (fun _ hk => ⟨hk.2.2.1, ⟨hk.2.2.2.1, ⟨hk.2.2.2.2.1, hk.2.2.2.2.2⟩⟩⟩)⟩, ⟨by (try simp only [hl124000_107]); (try simp only [hl129000_107]); (with_reducible repeat (first | refine blk_drewN ?_ _ | refine blk_drew ?_ | refine blk_alloc ?_ _)); exact BK101.out⟩, ⟨by (try simp only [hl124000_107]); (try simp only [hl129000_107]); (with_reducible repeat (first | refine blk_drewN ?_ _ | refine blk_drew ?_ | refine blk_alloc ?_ _)); exact BK102.out⟩, ⟨by (try simp only [hl124000_107]); (try simp only [hl129000_107]); (with_reducible repeat (first | refine blk_drewN ?_ _ | refine blk_drew ?_ | refine blk_alloc ?_ _)); exact BK118.out⟩, ⟨by (try simp only [hl124000_107]); (try simp only [hl129000_107]); (with_reducible repeat (first | refine blk_drewN ?_ _ | refine blk_drew ?_ | refine blk_alloc ?_ _)); exact BK123.out⟩, ⟨by (try simp only [hl124000_107]); (try simp only [hl129000_107]); (with_reducible repeat (first | refine blk_drewN ?_ _ | refine blk_drew ?_ | refine blk_alloc ?_ _)); exact BK128.out⟩, ⟨by (try simp only [hl124000_107]); (try simp only [hl129000_107]); (with_reducible repeat (first | refine blk_drewN ?_ _ | refine blk_drew ?_ | refine blk_alloc ?_ _)); exact BK134.out⟩, ⟨by (try simp only [hl124000_107]); (try simp only [hl129000_107]); (with_reducible repeat (first | refine blk_drewN ?_ _ | refine blk_drew ?_ | refine blk_alloc ?_ _)); exact BK167.out⟩, ⟨bB HB.out⟩⟩
              ·replace c187 := Bool.eq_false_iff.mpr c187
               subst c187
               have H1 : (laws_FnExactDivFloats.j2 kj107 t151 true t152 t132) = some r := by rw [if_neg (show ¬ (false = true) by decide)] at H; exact H
               clear H; have H := H1; clear H1
               have H' := am H
               clear H; have hnb202 := NB167_101.out; have hnc202 := NB101_167.out; have hnb203 := NB167_102.out; have hnc203 := NB102_167.out; have hnb204 := NB167_118.out; have hnc204 := NB118_167.out; have hnb205 := NB167_123.out; have hnc205 := NB123_167.out; have hnb206 := NB167_128.out; have hnc206 := NB128_167.out; have hnb207 := NB167_134.out; have hnc207 := NB134_167.out
               have hcz208_0 : w182.cell? ⟨gb167, 0, none⟩ = some (.slice none 0 0) := (blk_cell BK167.out 0).trans rfl
               have hcz208_1 : w182.cell? ⟨gb167, 1, none⟩ = some (.int .i64 0) := (blk_cell BK167.out 1).trans rfl
               have hfz208_0 := blk_frozen BK167.out 0; have hfz208_1 := blk_frozen BK167.out 1; have hnb209 := NB118_101.out; have hnc209 := NB101_118.out; have hnb210 := NB118_102.out; have hnc210 := NB102_118.out; have hnb211 := NB118_123.out; have hnc211 := NB123_118.out; have hnb212 := NB118_128.out; have hnc212 := NB128_118.out; have hnb213 := NB118_134.out; have hnc213 := NB134_118.out
               have hcz214_0 : w182.cell? ⟨gb118, 0, none⟩ = some (.slice Ao41 t113.length co41) := (blk_cell BK118.out 0).trans rfl
               have hcz214_1 : w182.cell? ⟨gb118, 1, none⟩ = some (.int .i64 t116) := (blk_cell BK118.out 1).trans rfl
               have hfz214_0 := blk_frozen BK118.out 0; have hfz214_1 := blk_frozen BK118.out 1
               go_wp2_with (first | ((with_reducible refine gate_callee (f := 10) rfl ?_); refine goesL_ (some 104) rfl rfl Try.func10 (by kernel_rfl) rfl #[.agg #[.slice Ao183 t162.length co183, .int .i64 t165], .agg #[.slice Ao41 t113.length co41, .int .i64 t116]] rfl bE ?_; (with_reducible refine (laws_eqFloating.calls kj107 _ _ t162 t165 _ _ t113 t116 false _ ?side1 ?side2 ?side3 ?side4 A186.out).mono ?_); (case side1 => refine (Kd.R_reads' (e := 3) (base := w.heap.size) (ok := fun k_ => (some k_ ≠ (v155 : Value).ownBlock ∧ (some k_ ≠ (v159 : Value).ownBlock ∧ (some k_ ≠ (.slice Ao41 t113.length co41 : Value).ownBlock ∧ (some k_ ≠ (.slice Ao48 t147.length co48 : Value).ownBlock ∧ (some k_ ≠ (.slice Ao57 t149.length co57 : Value).ownBlock ∧ some k_ ≠ (.slice Ao66 t129.length co66 : Value).ownBlock)))))) (n := t162.length) (c := co183) ?_).2.2; exact (bC ((Kd.R_mono (Kd.R_far (p := ⟨gb167, 1, none⟩) (Kd.R_far (p := ⟨gb167, 0, none⟩) (Kd.R_types HO164.out BK167.out (by decide)) (fun _ hk => hk.2) (.slice Ao183 t162.length co183)) (fun _ hk => hk.2) (.int .i64 t165)) (fun _ h_ => h_.1))))); (case side2 => exact (Kd.R_reads' HO164.out).2.1); (case side3 => refine (Kd.R_reads' (e := 3) (base := w.heap.size) (ok := fun k_ => (some k_ ≠ (v155 : Value).ownBlock ∧ (some k_ ≠ (v159 : Value).ownBlock ∧ (some k_ ≠ (.slice Ao183 t162.length co183 : Value).ownBlock ∧ (some k_ ≠ (.slice Ao48 t147.length co48 : Value).ownBlock ∧ (some k_ ≠ (.slice Ao57 t149.length co57 : Value).ownBlock ∧ some k_ ≠ (.slice Ao66 t129.length co66 : Value).ownBlock)))))) (n := t113.length) (c := co41) ?_).2.2; exact (bC ((Kd.R_mono (Kd.R_far (p := ⟨gb167, 1, none⟩) (Kd.R_far (p := ⟨gb167, 0, none⟩) (Kd.R_types HO_119000.out BK167.out (by decide)) (fun _ hk => hk.2) (.slice Ao183 t162.length co183)) (fun _ hk => hk.2) (.int .i64 t165)) (fun _ h_ => h_.1))))); (case side4 => exact (Kd.R_reads' HO_119000.out).2.1); rintro e w215 ⟨rfl, hb⟩; refine ⟨_, rfl, ?_⟩; have n0_ := am (Kd.R_below (bC ((Kd.R_mono (Kd.R_far (p := ⟨gb167, 1, none⟩) (Kd.R_far (p := ⟨gb167, 0, none⟩) (Kd.R_types HO_119000.out BK167.out (by decide)) (fun _ hk => hk.2) (.slice Ao183 t162.length co183)) (fun _ hk => hk.2) (.int .i64 t165)) (fun _ h_ => h_.1)))) hb); have n1_ := am (Kd.R_below (bC ((Kd.R_mono (Kd.R_far (p := ⟨gb167, 1, none⟩) (Kd.R_far (p := ⟨gb167, 0, none⟩) (Kd.R_types HO_124000.out BK167.out (by decide)) (fun _ hk => hk.2) (.slice Ao183 t162.length co183)) (fun _ hk => hk.2) (.int .i64 t165)) (fun _ h_ => h_.1)))) hb); have n2_ := am (Kd.R_below (bC ((Kd.R_mono (Kd.R_far (p := ⟨gb167, 1, none⟩) (Kd.R_far (p := ⟨gb167, 0, none⟩) (Kd.R_types HO_129000.out BK167.out (by decide)) (fun _ hk => hk.2) (.slice Ao183 t162.length co183)) (fun _ hk => hk.2) (.int .i64 t165)) (fun _ h_ => h_.1)))) hb); have n3_ := am (Kd.R_below (bC ((Kd.R_mono (Kd.R_far (p := ⟨gb167, 1, none⟩) (Kd.R_far (p := ⟨gb167, 0, none⟩) (Kd.R_types HO_135000.out BK167.out (by decide)) (fun _ hk => hk.2) (.slice Ao183 t162.length co183)) (fun _ hk => hk.2) (.int .i64 t165)) (fun _ h_ => h_.1)))) hb); have n4_ := am (Kd.R_below (bC ((Kd.R_mono (Kd.R_far (p := ⟨gb167, 1, none⟩) (Kd.R_far (p := ⟨gb167, 0, none⟩) (Kd.R_types HO156.out BK167.out (by decide)) (fun _ hk => hk.2) (.slice Ao183 t162.length co183)) (fun _ hk => hk.2) (.int .i64 t165)) (fun _ h_ => h_.1)))) hb); have n5_ := am (Kd.R_below (bC ((Kd.R_mono (Kd.R_far (p := ⟨gb167, 1, none⟩) (Kd.R_far (p := ⟨gb167, 0, none⟩) (Kd.R_types HO160.out BK167.out (by decide)) (fun _ hk => hk.2) (.slice Ao183 t162.length co183)) (fun _ hk => hk.2) (.int .i64 t165)) (fun _ h_ => h_.1)))) hb); have n6_ := am (Kd.R_below (bC ((Kd.R_mono (Kd.R_far (p := ⟨gb167, 1, none⟩) (Kd.R_far (p := ⟨gb167, 0, none⟩) (Kd.R_types HO164.out BK167.out (by decide)) (fun _ hk => hk.2) (.slice Ao183 t162.length co183)) (fun _ hk => hk.2) (.int .i64 t165)) (fun _ h_ => h_.1)))) hb); have n7_ := am (blk_below (g := gb101) (o := .cells #[.slice A0_0 l0_0.length c0_0, .int .i64 a0_1] 24 (0, 0)) (by (with_reducible repeat (first | refine blk_drewN ?_ _ | refine blk_drew ?_ | refine blk_alloc ?_ _)); refine blk_far ?_ NB101_167.out _; (with_reducible repeat (first | refine blk_drewN ?_ _ | refine blk_drew ?_ | refine blk_alloc ?_ _)); refine blk_far ?_ NB101_167.out _; (with_reducible repeat (first | refine blk_drewN ?_ _ | refine blk_drew ?_ | refine blk_alloc ?_ _)); exact BK101.out) hb); have n8_ := am (blk_below (g := gb102) (o := .cells #[.slice A1_0 l1_0.length c1_0, .int .i64 a1_1] 24 (0, 0)) (by (with_reducible repeat (first | refine blk_drewN ?_ _ | refine blk_drew ?_ | refine blk_alloc ?_ _)); refine blk_far ?_ NB102_167.out _; (with_reducible repeat (first | refine blk_drewN ?_ _ | refine blk_drew ?_ | refine blk_alloc ?_ _)); refine blk_far ?_ NB102_167.out _; (with_reducible repeat (first | refine blk_drewN ?_ _ | refine blk_drew ?_ | refine blk_alloc ?_ _)); exact BK102.out) hb); have n9_ := am (blk_below (g := gb118) (o := .cells #[.slice Ao41 t113.length co41, .int .i64 t116] 26 (0, 0)) (by (with_reducible repeat (first | refine blk_drewN ?_ _ | refine blk_drew ?_ | refine blk_alloc ?_ _)); refine blk_far ?_ NB118_167.out _; (with_reducible repeat (first | refine blk_drewN ?_ _ | refine blk_drew ?_ | refine blk_alloc ?_ _)); refine blk_far ?_ NB118_167.out _; (with_reducible repeat (first | refine blk_drewN ?_ _ | refine blk_drew ?_ | refine blk_alloc ?_ _)); exact BK118.out) hb); have n10_ := am (blk_below (g := gb123) (o := .cells #[.slice Ao48 t147.length co48, .int .i64 t122] 26 (0, 0)) (by (with_reducible repeat (first | refine blk_drewN ?_ _ | refine blk_drew ?_ | refine blk_alloc ?_ _)); refine blk_far ?_ NB123_167.out _; (with_reducible repeat (first | refine blk_drewN ?_ _ | refine blk_drew ?_ | refine blk_alloc ?_ _)); refine blk_far ?_ NB123_167.out _; (with_reducible repeat (first | refine blk_drewN ?_ _ | refine blk_drew ?_ | refine blk_alloc ?_ _)); exact BK123.out) hb); have n11_ := am (blk_below (g := gb128) (o := .cells #[.slice Ao57 t149.length co57, .int .i64 t127] 26 (0, 0)) (by (with_reducible repeat (first | refine blk_drewN ?_ _ | refine blk_drew ?_ | refine blk_alloc ?_ _)); refine blk_far ?_ NB128_167.out _; (with_reducible repeat (first | refine blk_drewN ?_ _ | refine blk_drew ?_ | refine blk_alloc ?_ _)); refine blk_far ?_ NB128_167.out _; (with_reducible repeat (first | refine blk_drewN ?_ _ | refine blk_drew ?_ | refine blk_alloc ?_ _)); exact BK128.out) hb); have n12_ := am (blk_below (g := gb134) (o := .cells #[.slice Ao66 t129.length co66, .int .i64 t132] 26 (0, 0)) (by (with_reducible repeat (first | refine blk_drewN ?_ _ | refine blk_drew ?_ | refine blk_alloc ?_ _)); refine blk_far ?_ NB134_167.out _; (with_reducible repeat (first | refine blk_drewN ?_ _ | refine blk_drew ?_ | refine blk_alloc ?_ _)); refine blk_far ?_ NB134_167.out _; (with_reducible repeat (first | refine blk_drewN ?_ _ | refine blk_drew ?_ | refine blk_alloc ?_ _)); exact BK134.out) hb); have n13_ := am (blk_below (g := gb167) (o := .cells #[.slice Ao183 t162.length co183, .int .i64 t165] 26 (0, 0)) (by (with_reducible repeat (first | refine blk_drewN ?_ _ | refine blk_drew ?_ | refine blk_alloc ?_ _)); refine blk_put (cs := #[.slice Ao183 t162.length co183, .int .i64 0]) ?_ 1 _ rfl; (with_reducible repeat (first | refine blk_drewN ?_ _ | refine blk_drew ?_ | refine blk_alloc ?_ _)); refine blk_put (cs := #[.slice none 0 0, .int .i64 0]) ?_ 0 _ rfl; (with_reducible repeat (first | refine blk_drewN ?_ _ | refine blk_drew ?_ | refine blk_alloc ?_ _)); exact BK167.out) hb); have n14_ := am (below_step (bB HB.out) hb); clear HO_119000; clear HO_124000; clear HO_129000; clear HO_135000; clear HO156; clear HO160; clear HO164; clear BK101; clear BK102; clear BK118; clear BK123; clear BK128; clear BK134; clear BK167; clear HB; have HO_119000 := n0_; have HO_124000 := n1_; have HO_129000 := n2_; have HO_135000 := n3_; have HO156 := n4_; have HO160 := n5_; have HO164 := n6_; have BK101 := n7_; have BK102 := n8_; have BK118 := n9_; have BK123 := n10_; have BK128 := n11_; have BK134 := n12_; have BK167 := n13_; have HB := n14_; clear n0_ n1_ n2_ n3_ n4_ n5_ n6_ n7_ n8_ n9_ n10_ n11_ n12_ n13_ n14_; (try clear hb); (try clear hb2); (try clear hk); (try clear hi)))
               go_meet
               case rel => exact ⟨_, (true), (by first | rfl | (simp; done) | (simp [*]; done)), H', ⟨by have := HJ24.out; have := HJ107.out; first | omega | exact Nat.le_refl _⟩, ⟨by (try simp only [hl124000_107]); (try simp only [hl129000_107]); (with_reducible repeat (first | apply Kd.R_alloc | apply Kd.R_drewN | apply Kd.R_drew)); exact Kd.R_mono HO_119000.out (fun _ hk => ⟨hk.2.2.2.1, ⟨hk.2.2.2.2.1, ⟨hk.2.2.2.2.2, hk.2.2.1⟩⟩⟩)⟩, ⟨by (try simp only [hl124000_107]); (try simp only [hl129000_107]); (with_reducible repeat (first | apply Kd.R_alloc | apply Kd.R_drewN | apply Kd.R_drew)); exact Kd.R_mono HO_124000.out (fun _ hk => ⟨hk.2.2.2.1, ⟨hk.2.2.2.2.1, ⟨hk.2.2.2.2.2, hk.2.2.1⟩⟩⟩)⟩, ⟨by (try simp only [hl124000_107]); (try simp only [hl129000_107]); (with_reducible repeat (first | apply Kd.R_alloc | apply Kd.R_drewN | apply Kd.R_drew)); exact Kd.R_mono HO_129000.out (fun _ hk => ⟨hk.2.2.2.1, ⟨hk.2.2.2.2.1, ⟨hk.2.2.2.2.2, hk.2.2.1⟩⟩⟩)⟩, ⟨by (try simp only [hl124000_107]); (try simp only [hl129000_107]); (with_reducible repeat (first | apply Kd.R_alloc | apply Kd.R_drewN | apply Kd.R_drew)); exact Kd.R_mono HO_135000.out (fun _ hk => ⟨hk.2.2.2.1, ⟨hk.2.2.2.2.1, ⟨hk.2.2.2.2.2, hk.2.2.1⟩⟩⟩)⟩, ⟨by (try simp only [hl124000_107]); (try simp only [hl129000_107]); (with_reducible repeat (first | apply Kd.R_alloc | apply Kd.R_drewN | apply Kd.R_drew)); exact Kd.R_mono HO164.out (fun _ hk => ⟨hk.2.2.1, ⟨hk.2.2.2.1, ⟨hk.2.2.2.2.1, hk.2.2.2.2.2⟩⟩⟩)⟩, ⟨by (try simp only [hl124000_107]); (try simp only [hl129000_107]); (with_reducible repeat (first | refine blk_drewN ?_ _ | refine blk_drew ?_ | refine blk_alloc ?_ _)); exact BK101.out⟩, ⟨by (try simp only [hl124000_107]); (try simp only [hl129000_107]); (with_reducible repeat (first | refine blk_drewN ?_ _ | refine blk_drew ?_ | refine blk_alloc ?_ _)); exact BK102.out⟩, ⟨by (try simp only [hl124000_107]); (try simp only [hl129000_107]); (with_reducible repeat (first | refine blk_drewN ?_ _ | refine blk_drew ?_ | refine blk_alloc ?_ _)); exact BK118.out⟩, ⟨by (try simp only [hl124000_107]); (try simp only [hl129000_107]); (with_reducible repeat (first | refine blk_drewN ?_ _ | refine blk_drew ?_ | refine blk_alloc ?_ _)); exact BK123.out⟩, ⟨by (try simp only [hl124000_107]); (try simp only [hl129000_107]); (with_reducible repeat (first | refine blk_drewN ?_ _ | refine blk_drew ?_ | refine blk_alloc ?_ _)); exact BK128.out⟩, ⟨by (try simp only [hl124000_107]); (try simp only [hl129000_107]); (with_reducible repeat (first | refine blk_drewN ?_ _ | refine blk_drew ?_ | refine blk_alloc ?_ _)); exact BK134.out⟩, ⟨by (try simp only [hl124000_107]); (try simp only [hl129000_107]); (with_reducible repeat (first | refine blk_drewN ?_ _ | refine blk_drew ?_ | refine blk_alloc ?_ _)); exact BK167.out⟩, ⟨bB HB.out⟩⟩
             case rest =>
              clear HC165
              try clear c1
              try clear c2
              try clear p2
              try clear c8
              try clear c9
              try clear c10
              try clear c18
              try clear c19
              try clear c20
              try clear c21
              try clear c187
              try clear c188
              try clear c189
              try clear c190
              try clear c191
              try clear c192
              try clear c193
              try clear c195
              try clear c196
              try clear c197
              try clear c198
              try clear c199
              try clear c202
              try clear c203
              try clear c204
              try clear c205
              try clear c206
              try clear c207
              try clear c209
              try clear c210
              try clear c211
              try clear c212
              try clear c213
              try clear hcz194_0
              try clear hcz194_1
              try clear hcz200_0
              try clear hcz200_1
              try clear hcz208_0
              try clear hcz208_1
              try clear hcz214_0
              try clear hcz214_1
              try clear hfz194_0
              try clear hfz194_1
              try clear hfz200_0
              try clear hfz200_1
              try clear hfz208_0
              try clear hfz208_1
              try clear hfz214_0
              try clear hfz214_1
              obtain ⟨kq, x110_164, rfl, HA, HJ164, HO_119000, HO_124000, HO_129000, HO_135000, HO_168000, BK101, BK102, BK118, BK123, BK128, BK134, BK167, HB⟩ := hcut
              have hl135000_164 := (Kd.R_reads' HO_135000.out).1
              rw [hl135000_164] at HO_135000
              (try simp only [hl135000_164])
              (try simp only [hl135000_164] at BK101)
              (try simp only [hl135000_164] at BK102)
              (try simp only [hl135000_164] at BK118)
              (try simp only [hl135000_164] at BK123)
              (try simp only [hl135000_164] at BK128)
              (try simp only [hl135000_164] at BK134)
              (try simp only [hl135000_164] at BK167)
              (try simp only [hl135000_164] at HO_119000)
              (try simp only [hl135000_164] at HO_124000)
              (try simp only [hl135000_164] at HO_129000)
              (try simp only [hl135000_164] at HO_168000)
              cases kq with
              | zero => exact absurd HA.out (by simp [laws_FnExactDivFloats.j2])
              | succ kj164 =>
               have H := HA.out; clear HA
               simp only [laws_FnExactDivFloats.j2] at H
               by_cases c216 : x110_164 = true
               ·subst c216
                have H1 : (some false) = some r := by rw [if_pos rfl] at H; exact H
                clear H; have H := H1; clear H1
                exact absurd ((Option.some.inj H).trans HT.out) (by decide)
               ·replace c216 := Bool.eq_false_iff.mpr c216
                subst c216
                have H1 : ((laws_heldFloating.f kj164 t152 t132 1).bind fun t169 => (if t169 < 0 then (some false) else (if t169 = t151 then (some true) else (some false)))) = some r := by rw [if_neg (show ¬ (false = true) by decide)] at H; exact H
                clear H; have H := H1; clear H1
                replace H := Option.bind_eq_some_iff.mp H
                obtain ⟨t169, A2170, H⟩ := H
                replace H : (if t169 < 0 then (some false) else (if t169 = t151 then (some true) else (some false))) = some r := H
                have A217 := am A2170; clear A2170
                by_cases c218 : t169 < 0
                ·rw [if_pos c218] at H
                 have c218b0 : decide (t169 < 0) = true := decide_eq_true c218
                 clear c218
                 exact absurd ((Option.some.inj H).trans HT.out) (by decide)
                ·rw [if_neg c218] at H
                 have c218b0 : decide (t169 < 0) = false := decide_eq_false c218
                 clear c218
                 by_cases c219 : t169 = t151
                 ·rw [if_pos c219] at H
                  have c219b0 : (t169 == t151) = true := beq_iff_eq.mpr c219
                  have c219b1 : (t169 != t151) = false := bne_eq_false_iff_eq.mpr c219
                  clear c219
                  obtain rfl := Option.some.inj H
                  have hnb220 := NB134_101.out; have hnc220 := NB101_134.out; have hnb221 := NB134_102.out; have hnc221 := NB102_134.out; have hnb222 := NB134_118.out; have hnc222 := NB118_134.out; have hnb223 := NB134_123.out; have hnc223 := NB123_134.out; have hnb224 := NB134_128.out; have hnc224 := NB128_134.out; have hnb225 := NB134_167.out; have hnc225 := NB167_134.out
                  have hcz226_0 : wc.cell? ⟨gb134, 0, none⟩ = some (.slice Ao66 t152.length co66) := (blk_cell BK134.out 0).trans rfl
                  have hcz226_1 : wc.cell? ⟨gb134, 1, none⟩ = some (.int .i64 t132) := (blk_cell BK134.out 1).trans rfl
                  have hfz226_0 := blk_frozen BK134.out 0; have hfz226_1 := blk_frozen BK134.out 1
                  go_wp2_with (first | ((with_reducible refine gate_callee (f := 12) rfl ?_); refine goesL_ (some 113) rfl rfl Try.func12 (by kernel_rfl) rfl #[.agg #[.slice Ao66 t152.length co66, .int .i64 t132], .int .i64 1] rfl bE ?_; (with_reducible refine (laws_heldFloating.calls kj164 _ _ t152 t132 1 t169 _ ?side1 ?side2 A217.out).mono ?_); (case side1 => exact bD ((Kd.R_reads' HO_135000.out).2.2)); (case side2 => exact (Kd.R_reads' HO_135000.out).2.1); rintro e w227 ⟨rfl, hb⟩; refine ⟨_, rfl, ?_⟩; have n0_ := am (Kd.R_below (bC HO_119000.out) hb); have n1_ := am (Kd.R_below (bC HO_124000.out) hb); have n2_ := am (Kd.R_below (bC HO_129000.out) hb); have n3_ := am (Kd.R_below (bC HO_135000.out) hb); have n4_ := am (Kd.R_below (bC HO_168000.out) hb); have n5_ := am (blk_below (bA BK101.out) hb); have n6_ := am (blk_below (bA BK102.out) hb); have n7_ := am (blk_below (bA BK118.out) hb); have n8_ := am (blk_below (bA BK123.out) hb); have n9_ := am (blk_below (bA BK128.out) hb); have n10_ := am (blk_below (bA BK134.out) hb); have n11_ := am (blk_below (bA BK167.out) hb); have n12_ := am (below_step (bB HB.out) hb); clear HO_119000; clear HO_124000; clear HO_129000; clear HO_135000; clear HO_168000; clear BK101; clear BK102; clear BK118; clear BK123; clear BK128; clear BK134; clear BK167; clear HB; have HO_119000 := n0_; have HO_124000 := n1_; have HO_129000 := n2_; have HO_135000 := n3_; have HO_168000 := n4_; have BK101 := n5_; have BK102 := n6_; have BK118 := n7_; have BK123 := n8_; have BK128 := n9_; have BK134 := n10_; have BK167 := n11_; have HB := n12_; clear n0_ n1_ n2_ n3_ n4_ n5_ n6_ n7_ n8_ n9_ n10_ n11_ n12_; (try clear hb); (try clear hb2); (try clear hk); (try clear hi)))
                  go_ret
                  exact ⟨by first | rfl | (simp [errW_none, errW_some] <;> rfl) | (simp [*, errW_none, errW_some] <;> rfl), bB HB.out⟩
                 ·rw [if_neg c219] at H
                  have c219b0 : (t169 == t151) = false := beq_eq_false_iff_ne.mpr c219
                  have c219b1 : (t169 != t151) = true := bne_iff_ne.mpr c219
                  exact absurd ((Option.some.inj H).trans HT.out) (by decide)
            ·rw [if_neg c161] at H
             have c161b0 : (t153 == t151) = false := beq_eq_false_iff_ne.mpr c161
             have c161b1 : (t153 != t151) = true := bne_iff_ne.mpr c161
             exact absurd ((Option.some.inj H).trans HT.out) (by decide)
       ·replace c105 := Bool.eq_false_iff.mpr c105
        subst c105
        have H1 : (some false) = some r := by rw [if_neg (show ¬ (false = true) by decide)] at H; exact H
        clear H; have H := H1; clear H1
        exact absurd ((Option.some.inj H).trans HT.out) (by decide)
      ·replace c102 := Bool.eq_false_iff.mpr c102
       subst c102
       have H1 : (some false) = some r := by rw [if_neg (show ¬ (false = true) by decide)] at H; exact H
       clear H; have H := H1; clear H1
       exact absurd ((Option.some.inj H).trans HT.out) (by decide)

/-- THE ONE PURE STATEMENT of laws_FnExactDivFloats: yours. -/
def laws_FnExactDivFloats.Pure : Prop := ∀ (l0_0 : List Int) (a0_1 : Int) (l1_0 : List Int) (a1_1 : Int), (l0_0.length ≤ maxLen ∧ ∀ l0_0_, l0_0_ ∈ l0_0 → (Lit.int .i64 l0_0_).wf = true) → (Lit.int .i64 a0_1).wf = true → (l1_0.length ≤ maxLen ∧ ∀ l1_0_, l1_0_ ∈ l1_0 → (Lit.int .i64 l1_0_).wf = true) → (Lit.int .i64 a1_1).wf = true → ∃ k, laws_FnExactDivFloats.f k l0_0 a0_1 l1_0 a1_1 = some true
theorem laws_FnExactDivFloats.walk (P : laws_FnExactDivFloats.Pure) (A0_0 : Option Addr) (c0_0 : Nat) (l0_0 : List Int) (a0_1 : Int) (A1_0 : Option Addr) (c1_0 : Nat) (l1_0 : List Int) (a1_1 : Int) (w : World) (hr0_0 : Kd.C (Kd.int .i64) w A0_0 l0_0.length l0_0) (hc0_0 : l0_0.length ≤ c0_0) (hg0_0 : (l0_0.length ≤ maxLen ∧ ∀ l0_0_, l0_0_ ∈ l0_0 → (Lit.int .i64 l0_0_).wf = true)) (hg0_1 : (Lit.int .i64 a0_1).wf = true) (hr1_0 : Kd.C (Kd.int .i64) w A1_0 l1_0.length l1_0) (hc1_0 : l1_0.length ≤ c1_0) (hg1_0 : (l1_0.length ≤ maxLen ∧ ∀ l1_0_, l1_0_ ∈ l1_0 → (Lit.int .i64 l1_0_).wf = true)) (hg1_1 : (Lit.int .i64 a1_1).wf = true) :
  Calls Try.prog 3 #[.agg #[.slice A0_0 l0_0.length c0_0, .int .i64 a0_1], .agg #[.slice A1_0 l1_0.length c1_0, .int .i64 a1_1]] w fun e w' => e = .returned (.bool true) ∧ Below w.heap.size w w' := by
 obtain ⟨k, h⟩ := P l0_0 a0_1 l1_0 a1_1 hg0_0 hg0_1 hg1_0 hg1_1
 refine (laws_FnExactDivFloats.calls k _ _ l0_0 a0_1 _ _ l1_0 a1_1 true w hr0_0 hc0_0 hr1_0 hc1_0 h rfl).mono ?_
 rintro e w' ⟨rfl, hd⟩
 exact ⟨rfl, hd⟩

end Go.Proofs.Ytffhddibgfaopaa.P
