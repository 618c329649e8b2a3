/- What functions of the program come to, each with the proof that it does, laid by a program of this session out of the translation; no condition is set on any claim. -/
import Derived.Test.YtaopbkbjfmfcdaaZSrPSl0
import Derived.Test.YtaopbkbjfmfcdaaZSrPSl1
import Derived.Test.YtaopbkbjfmfcdaaZSrPSl2
import Derived.Test.YtaopbkbjfmfcdaaZSrPSl7
import Derived.Test.YtaopbkbjfmfcdaaZSrPSl8
import Derived.Test.YtaopbkbjfmfcdaaZSrPSl10
namespace Go.Proofs.Ytaopbkbjfmfcdaa.P
open Go.RowKit Go.Proofs.YtaopbkbjfmfcdaaW.PrintWords Go.Proofs.YtaopbkbjfmfcdaaW.PrintLast Go.Proofs.YtaopbkbjfmfcdaaW.PrintMore
attribute [local go_sem] max2_int min2_int max_two min_two max_three min_three max_four min_four   -- for this text's walks alone
set_option linter.unusedVariables false
set_option linter.unusedSimpArgs false

theorem qa8 {α : Type} (l : List α) (i : Nat) (a : α) : l.toArray.setIfInBounds i a = (l.set i a).toArray := List.setIfInBounds_toArray ..
theorem qb8 {α : Type} (x a : α) (l : List α) : (x :: l).set 0 a = a :: l := rfl
theorem qc8 {α : Type} (x a : α) (l : List α) (n : Nat) : (x :: l).set (n + 1) a = x :: l.set n a := rfl
/-! ### laws_FnExactRunCircuit: function 8 -/
mutual
def laws_FnExactRunCircuit.j0 : Nat → List Int → List Int → Bool → List Int → List Int → Bool → Bool → Int → List (S87) → List Int → Int → List (S46) → List Int → Option (Bool)
 | 0, _, _, _, _, _, _, _, _, _, _, _, _, _ => none
 | k + 1, x1, x6, x7, x9, x10, x11, x51, x102000, x102001, x102002, x125000, x125001, x125002 => if x51 = true then (some false) else ((laws_toCircuit.f k x102000 x102001 x102002).bind fun bt133 => ((laws_eqCircuit.f k x125000 x125001 x125002 bt133.1 bt133.2.1 bt133.2.2).bind fun t140 => (if t140 = true then ((laws_toIntS.f k x1).bind fun t141 => ((laws_eqIntS.f k x9 t141).bind fun t144 => (if t144 = true then ((laws_markCircuit.f k x125000 x125001 x125002 1).bind fun bt145 => ((laws_markIntS.f k x9 bt145.1).bind fun bt148 => (if bt148.1 < 0 then (laws_FnExactRunCircuit.j1 k x1 x6 x7 x10 true x102000 x102001 x102002) else ((laws_eqIntS.f k x10 x6).bind fun t150 => (if t150 = true then (laws_FnExactRunCircuit.j1 k x1 x6 x7 x10 (x11 != x7) x102000 x102001 x102002) else (laws_FnExactRunCircuit.j1 k x1 x6 x7 x10 true x102000 x102001 x102002)))))) else (some false)))) else (some false))))
def laws_FnExactRunCircuit.j1 : Nat → List Int → List Int → Bool → List Int → Bool → Int → List (S87) → List Int → Option (Bool)
 | 0, _, _, _, _, _, _, _, _ => none
 | k + 1, x1, x6, x7, x10, x80, x102000, x102001, x102002 => if x80 = true then (some false) else ((laws_markIntS.f k x10 1).bind fun bt151 => ((laws_heldIntS.f k bt151.2 1).bind fun t153 => (if t153 < 0 then (some false) else (if t153 = bt151.1 then ((laws_toCircuit.f k x102000 x102001 x102002).bind fun bt154 => ((laws_toIntS.f k x1).bind fun t161 => ((impl_RunCircuit.f k bt154.1 bt154.2.1 bt154.2.2 t161).bind fun bt164 => ((laws_eqIntS.f k bt164.1 x6).bind fun t168 => (if t168 = true then (laws_FnExactRunCircuit.j2 k bt151.2 bt151.1 (bt164.2 != x7)) else (laws_FnExactRunCircuit.j2 k bt151.2 bt151.1 true)))))) else (some false)))))
def laws_FnExactRunCircuit.j2 : Nat → List Int → Int → Bool → Option (Bool)
 | 0, _, _, _ => none
 | k + 1, x10, x13, x108 => if x108 = true then (some false) else ((laws_heldIntS.f k x10 1).bind fun t169 => (if t169 < 0 then (some false) else (if t169 = x13 then (some true) else (some false))))
end
def laws_FnExactRunCircuit.f (k : Nat) (a0_0 : Int) (l0_1 : List (S87)) (l0_2 : List Int) (l1 : List Int) : Option (Bool) := if (l1.length : Int) > 1048576 then (some true) else ((laws_szCircuit.f a0_0 l0_1 l0_2 1048576).bind fun t102 => (if t102 < 0 then (some true) else ((laws_toCircuit.f k a0_0 l0_1 l0_2).bind fun bt103 => ((laws_toIntS.f k l1).bind fun t110 => ((spec_RunCircuit.f k bt103.1 bt103.2.1 bt103.2.2 t110).bind fun bt113 => ((laws_toCircuit.f k a0_0 l0_1 l0_2).bind fun bt117 => ((laws_toIntS.f k l1).bind fun t125 => ((impl_RunCircuit.f k bt117.1 bt117.2.1 bt117.2.2 t125).bind fun bt128 => ((laws_eqIntS.f k bt128.1 bt113.1).bind fun t132 => (if t132 = true then (laws_FnExactRunCircuit.j0 k l1 bt113.1 bt113.2 t125 bt128.1 bt128.2 (bt128.2 != bt113.2) a0_0 l0_1 l0_2 bt117.1 bt117.2.1 bt117.2.2) else (laws_FnExactRunCircuit.j0 k l1 bt113.1 bt113.2 t125 bt128.1 bt128.2 true a0_0 l0_1 l0_2 bt117.1 bt117.2.1 bt117.2.2)))))))))))
set_option maxHeartbeats 8000000 in
set_option maxRecDepth 100000 in
theorem laws_FnExactRunCircuit.calls (k : Nat) (a0_0 : Int) (A0_1 : Option Addr) (c0_1 : Nat) (l0_1 : List (S87)) (A0_2 : Option Addr) (c0_2 : Nat) (l0_2 : List Int) (A1 : Option Addr) (c1 : Nat) (l1 : List Int) (r : Bool) (w : World) (hr0_1 : Kd.C k87 w A0_1 l0_1.length l0_1) (hc0_1 : l0_1.length ≤ c0_1) (hr0_2 : Kd.C (Kd.int .i64) w A0_2 l0_2.length l0_2) (hc0_2 : l0_2.length ≤ c0_2) (hr1 : Kd.C (Kd.int .i64) w A1 l1.length l1) (hc1 : l1.length ≤ c1) (h : laws_FnExactRunCircuit.f k a0_0 l0_1 l0_2 l1 = some r) (hT : r = true) :
  Calls Try.prog 8 #[.agg #[.int .i64 a0_0, .slice A0_1 l0_1.length c0_1, .slice A0_2 l0_2.length c0_2], .slice A1 l1.length c1] w fun e w' => e = .returned (.bool r) ∧ Below w.heap.size w w' := by
 have hu30 := Try.underlying30; have hu35 := Try.underlying35; have HR0_1 := am hr0_1; have HC0_1 := am hc0_1; clear hr0_1 hc0_1; have HR0_2 := am hr0_2; have HC0_2 := am hc0_2; clear hr0_2 hc0_2; have HR1 := am hr1; have HC1 := am hc1; clear hr1 hc1; have HB := am (Below.refl w.heap.size w)
 have H : (if (l1.length : Int) > 1048576 then (some true) else ((laws_szCircuit.f a0_0 l0_1 l0_2 1048576).bind fun t102 => (if t102 < 0 then (some true) else ((laws_toCircuit.f k a0_0 l0_1 l0_2).bind fun bt103 => ((laws_toIntS.f k l1).bind fun t110 => ((spec_RunCircuit.f k bt103.1 bt103.2.1 bt103.2.2 t110).bind fun bt113 => ((laws_toCircuit.f k a0_0 l0_1 l0_2).bind fun bt117 => ((laws_toIntS.f k l1).bind fun t125 => ((impl_RunCircuit.f k bt117.1 bt117.2.1 bt117.2.2 t125).bind fun bt128 => ((laws_eqIntS.f k bt128.1 bt113.1).bind fun t132 => (if t132 = true then (laws_FnExactRunCircuit.j0 k l1 bt113.1 bt113.2 t125 bt128.1 bt128.2 (bt128.2 != bt113.2) a0_0 l0_1 l0_2 bt117.1 bt117.2.1 bt117.2.2) else (laws_FnExactRunCircuit.j0 k l1 bt113.1 bt113.2 t125 bt128.1 bt128.2 true a0_0 l0_1 l0_2 bt117.1 bt117.2.1 bt117.2.2)))))))))))) = some r := h
 clear h; have HT := am hT; clear hT
 by_cases c3 : (l1.length : Int) > 1048576
 ·rw [if_pos c3] at H
  have c3b0 : decide (1048576 < (l1.length : Int)) = true := decide_eq_true c3
  have c3b1 : decide (1048576 < l1.length) = true := decide_eq_true (by omega)
  clear c3
  obtain rfl := Option.some.inj H
  go_enter Try.func8, Try.ntmps8
  go_wp2_with (first | ((with_reducible refine gate_dst (N := 2) rfl ?_); refine box_event ?hg (N := 2) ?hd (cs := #[.int .i64 a0_0, .slice A0_1 l0_1.length c0_1, .slice A0_2 l0_2.length c0_2]) (t := 30) ?hr ?_; (case hd => rfl); (case hg => rfl); (case hr => first | (go_simp; done) | (go_simp; rfl)); intro gb101 hg w4 hbox hb; have n0_ := am (below_step (bB HB.out) hb); have n1_ := am (hbox); have n2_ := am ((by rw [hg]; exact (below_size (bB HB.out)) : w.heap.size ≤ gb101)); have n3_ := am ((by rw [hg]; exact (below_size (bB HB.out)) : w.heap.size ≤ gb101)); clear HB; have HB := n0_; have BK101 := n1_; have GW101 := n2_; have GE101 := n3_; clear n0_ n1_ n2_ n3_; clear hb hbox hg))
  go_ret
  exact ⟨by first | rfl | (simp [errW_none, errW_some] <;> rfl) | (simp [*, errW_none, errW_some] <;> rfl), bB HB.out⟩
 ·rw [if_neg c3] at H
  have c3b0 : decide (1048576 < (l1.length : Int)) = false := decide_eq_false c3
  have c3b1 : decide (1048576 < l1.length) = false := decide_eq_false (by omega)
  clear c3
  replace H := Option.bind_eq_some_iff.mp H
  obtain ⟨t102, A50, H⟩ := H
  replace H : (if t102 < 0 then (some true) else ((laws_toCircuit.f k a0_0 l0_1 l0_2).bind fun bt103 => ((laws_toIntS.f k l1).bind fun t110 => ((spec_RunCircuit.f k bt103.1 bt103.2.1 bt103.2.2 t110).bind fun bt113 => ((laws_toCircuit.f k a0_0 l0_1 l0_2).bind fun bt117 => ((laws_toIntS.f k l1).bind fun t125 => ((impl_RunCircuit.f k bt117.1 bt117.2.1 bt117.2.2 t125).bind fun bt128 => ((laws_eqIntS.f k bt128.1 bt113.1).bind fun t132 => (if t132 = true then (laws_FnExactRunCircuit.j0 k l1 bt113.1 bt113.2 t125 bt128.1 bt128.2 (bt128.2 != bt113.2) a0_0 l0_1 l0_2 bt117.1 bt117.2.1 bt117.2.2) else (laws_FnExactRunCircuit.j0 k l1 bt113.1 bt113.2 t125 bt128.1 bt128.2 true a0_0 l0_1 l0_2 bt117.1 bt117.2.1 bt117.2.2)))))))))) = some r := H
  have A5 := am A50; clear A50
  by_cases c6 : t102 < 0
  ·rw [if_pos c6] at H
   have c6b0 : decide (t102 < 0) = true := decide_eq_true c6
   clear c6
   obtain rfl := Option.some.inj H
   go_enter Try.func8, Try.ntmps8
   go_wp2_with (first | ((with_reducible refine gate_dst (N := 2) rfl ?_); refine box_event ?hg (N := 2) ?hd (cs := #[.int .i64 a0_0, .slice A0_1 l0_1.length c0_1, .slice A0_2 l0_2.length c0_2]) (t := 30) ?hr ?_; (case hd => rfl); (case hg => rfl); (case hr => first | (go_simp; done) | (go_simp; rfl)); intro gb101 hg w7 hbox hb; have n0_ := am (below_step (bB HB.out) hb); have n1_ := am (hbox); have n2_ := am ((by rw [hg]; exact (below_size (bB HB.out)) : w.heap.size ≤ gb101)); have n3_ := am ((by rw [hg]; exact (below_size (bB HB.out)) : w.heap.size ≤ gb101)); clear HB; have HB := n0_; have BK101 := n1_; have GW101 := n2_; have GE101 := n3_; clear n0_ n1_ n2_ n3_; clear hb hbox hg; have hcz8_0 : w7.cell? ⟨gb101, 0, none⟩ = some (.int .i64 a0_0) := (blk_cell BK101.out 0).trans rfl; have hcz8_1 : w7.cell? ⟨gb101, 1, none⟩ = some (.slice A0_1 l0_1.length c0_1) := (blk_cell BK101.out 1).trans rfl; have hcz8_2 : w7.cell? ⟨gb101, 2, none⟩ = some (.slice A0_2 l0_2.length c0_2) := (blk_cell BK101.out 2).trans rfl; have hfz8_0 := blk_frozen BK101.out 0; have hfz8_1 := blk_frozen BK101.out 1; have hfz8_2 := blk_frozen BK101.out 2) | ((with_reducible refine gate_callee (f := 17) rfl ?_); refine goesL_ (some 22) rfl rfl Try.func17 (by kernel_rfl) rfl #[.agg #[.int .i64 a0_0, .slice A0_1 l0_1.length c0_1, .slice A0_2 l0_2.length c0_2], .int .i64 1048576] rfl bE ?_; (with_reducible refine (laws_szCircuit.calls a0_0 _ _ l0_1 _ _ l0_2 1048576 t102 _ ?side1 ?side2 ?side3 ?side4 A5.out).mono ?_); (case side1 => exact bD ((Kd.C_below HR0_1.out HB.out))); (case side2 => exact HC0_1.out); (case side3 => exact bD ((Kd.C_below HR0_2.out HB.out))); (case side4 => exact HC0_2.out); rintro e w9 ⟨rfl, hb⟩; refine ⟨_, rfl, ?_⟩; have n0_ := am (blk_below (bA BK101.out) hb); have n1_ := am (below_step (bB HB.out) hb); clear BK101; clear HB; have BK101 := n0_; have HB := n1_; clear n0_ n1_; (try clear hb); (try clear hb2); (try clear hk); (try clear hi)))
   go_ret
   exact ⟨by first | rfl | (simp [errW_none, errW_some] <;> rfl) | (simp [*, errW_none, errW_some] <;> rfl), bB HB.out⟩
  ·rw [if_neg c6] at H
   have c6b0 : decide (t102 < 0) = false := decide_eq_false c6
   clear c6
   replace H := Option.bind_eq_some_iff.mp H
   obtain ⟨⟨t103, t104, t107⟩, A100, H⟩ := H
   replace H : ((laws_toIntS.f k l1).bind fun t110 => ((spec_RunCircuit.f k t103 t104 t107 t110).bind fun bt113 => ((laws_toCircuit.f k a0_0 l0_1 l0_2).bind fun bt117 => ((laws_toIntS.f k l1).bind fun t125 => ((impl_RunCircuit.f k bt117.1 bt117.2.1 bt117.2.2 t125).bind fun bt128 => ((laws_eqIntS.f k bt128.1 bt113.1).bind fun t132 => (if t132 = true then (laws_FnExactRunCircuit.j0 k l1 bt113.1 bt113.2 t125 bt128.1 bt128.2 (bt128.2 != bt113.2) a0_0 l0_1 l0_2 bt117.1 bt117.2.1 bt117.2.2) else (laws_FnExactRunCircuit.j0 k l1 bt113.1 bt113.2 t125 bt128.1 bt128.2 true a0_0 l0_1 l0_2 bt117.1 bt117.2.1 bt117.2.2)))))))) = some r := H
   have A10 := am A100; clear A100
   replace H := Option.bind_eq_some_iff.mp H
   obtain ⟨t110, A110, H⟩ := H
   replace H : ((spec_RunCircuit.f k t103 t104 t107 t110).bind fun bt113 => ((laws_toCircuit.f k a0_0 l0_1 l0_2).bind fun bt117 => ((laws_toIntS.f k l1).bind fun t125 => ((impl_RunCircuit.f k bt117.1 bt117.2.1 bt117.2.2 t125).bind fun bt128 => ((laws_eqIntS.f k bt128.1 bt113.1).bind fun t132 => (if t132 = true then (laws_FnExactRunCircuit.j0 k l1 bt113.1 bt113.2 t125 bt128.1 bt128.2 (bt128.2 != bt113.2) a0_0 l0_1 l0_2 bt117.1 bt117.2.1 bt117.2.2) else (laws_FnExactRunCircuit.j0 k l1 bt113.1 bt113.2 t125 bt128.1 bt128.2 true a0_0 l0_1 l0_2 bt117.1 bt117.2.1 bt117.2.2))))))) = some r := H
   have A11 := am A110; clear A110
   replace H := Option.bind_eq_some_iff.mp H
   obtain ⟨⟨t113, t116⟩, A120, H⟩ := H
   replace H : ((laws_toCircuit.f k a0_0 l0_1 l0_2).bind fun bt117 => ((laws_toIntS.f k l1).bind fun t125 => ((impl_RunCircuit.f k bt117.1 bt117.2.1 bt117.2.2 t125).bind fun bt128 => ((laws_eqIntS.f k bt128.1 t113).bind fun t132 => (if t132 = true then (laws_FnExactRunCircuit.j0 k l1 t113 t116 t125 bt128.1 bt128.2 (bt128.2 != t116) a0_0 l0_1 l0_2 bt117.1 bt117.2.1 bt117.2.2) else (laws_FnExactRunCircuit.j0 k l1 t113 t116 t125 bt128.1 bt128.2 true a0_0 l0_1 l0_2 bt117.1 bt117.2.1 bt117.2.2)))))) = some r := H
   have A12 := am A120; clear A120
   replace H := Option.bind_eq_some_iff.mp H
   obtain ⟨⟨t117, t118, t121⟩, A130, H⟩ := H
   replace H : ((laws_toIntS.f k l1).bind fun t125 => ((impl_RunCircuit.f k t117 t118 t121 t125).bind fun bt128 => ((laws_eqIntS.f k bt128.1 t113).bind fun t132 => (if t132 = true then (laws_FnExactRunCircuit.j0 k l1 t113 t116 t125 bt128.1 bt128.2 (bt128.2 != t116) a0_0 l0_1 l0_2 t117 t118 t121) else (laws_FnExactRunCircuit.j0 k l1 t113 t116 t125 bt128.1 bt128.2 true a0_0 l0_1 l0_2 t117 t118 t121))))) = some r := H
   have A13 := am A130; clear A130
   replace H := Option.bind_eq_some_iff.mp H
   obtain ⟨t125, A140, H⟩ := H
   replace H : ((impl_RunCircuit.f k t117 t118 t121 t125).bind fun bt128 => ((laws_eqIntS.f k bt128.1 t113).bind fun t132 => (if t132 = true then (laws_FnExactRunCircuit.j0 k l1 t113 t116 t125 bt128.1 bt128.2 (bt128.2 != t116) a0_0 l0_1 l0_2 t117 t118 t121) else (laws_FnExactRunCircuit.j0 k l1 t113 t116 t125 bt128.1 bt128.2 true a0_0 l0_1 l0_2 t117 t118 t121)))) = some r := H
   have A14 := am A140; clear A140
   replace H := Option.bind_eq_some_iff.mp H
   obtain ⟨⟨t128, t131⟩, A150, H⟩ := H
   replace H : ((laws_eqIntS.f k t128 t113).bind fun t132 => (if t132 = true then (laws_FnExactRunCircuit.j0 k l1 t113 t116 t125 t128 t131 (t131 != t116) a0_0 l0_1 l0_2 t117 t118 t121) else (laws_FnExactRunCircuit.j0 k l1 t113 t116 t125 t128 t131 true a0_0 l0_1 l0_2 t117 t118 t121))) = some r := H
   have A15 := am A150; clear A150; have HC16 := am H; clear H
   go_enter Try.func8, Try.ntmps8
   go_upto_region 11 with (first | ((with_reducible refine gate_dst (N := 2) rfl ?_); refine box_event ?hg (N := 2) ?hd (cs := #[.int .i64 a0_0, .slice A0_1 l0_1.length c0_1, .slice A0_2 l0_2.length c0_2]) (t := 30) ?hr ?_; (case hd => rfl); (case hg => rfl); (case hr => first | (go_simp; done) | (go_simp; rfl)); intro gb101 hg w17 hbox hb; have n0_ := am (below_step (bB HB.out) hb); have n1_ := am (hbox); have n2_ := am ((by rw [hg]; exact (below_size (bB HB.out)) : w.heap.size ≤ gb101)); have n3_ := am ((by rw [hg]; exact (below_size (bB HB.out)) : w.heap.size ≤ gb101)); clear HB; have HB := n0_; have BK101 := n1_; have GW101 := n2_; have GE101 := n3_; clear n0_ n1_ n2_ n3_; clear hb hbox hg; have hcz18_0 : w17.cell? ⟨gb101, 0, none⟩ = some (.int .i64 a0_0) := (blk_cell BK101.out 0).trans rfl; have hcz18_1 : w17.cell? ⟨gb101, 1, none⟩ = some (.slice A0_1 l0_1.length c0_1) := (blk_cell BK101.out 1).trans rfl; have hcz18_2 : w17.cell? ⟨gb101, 2, none⟩ = some (.slice A0_2 l0_2.length c0_2) := (blk_cell BK101.out 2).trans rfl; have hfz18_0 := blk_frozen BK101.out 0; have hfz18_1 := blk_frozen BK101.out 1; have hfz18_2 := blk_frozen BK101.out 2) | ((with_reducible refine gate_callee (f := 17) rfl ?_); refine goesL_ (some 22) rfl rfl Try.func17 (by kernel_rfl) rfl #[.agg #[.int .i64 a0_0, .slice A0_1 l0_1.length c0_1, .slice A0_2 l0_2.length c0_2], .int .i64 1048576] rfl bE ?_; (with_reducible refine (laws_szCircuit.calls a0_0 _ _ l0_1 _ _ l0_2 1048576 t102 _ ?side1 ?side2 ?side3 ?side4 A5.out).mono ?_); (case side1 => exact bD ((Kd.C_below HR0_1.out HB.out))); (case side2 => exact HC0_1.out); (case side3 => exact bD ((Kd.C_below HR0_2.out HB.out))); (case side4 => exact HC0_2.out); rintro e w19 ⟨rfl, hb⟩; refine ⟨_, rfl, ?_⟩; have n0_ := am (blk_below (bA BK101.out) hb); have n1_ := am (below_step (bB HB.out) hb); clear BK101; clear HB; have BK101 := n0_; have HB := n1_; clear n0_ n1_; (try clear hb); (try clear hb2); (try clear hk); (try clear hi); have hcz20_0 : w19.cell? ⟨gb101, 0, none⟩ = some (.int .i64 a0_0) := (blk_cell BK101.out 0).trans rfl; have hcz20_1 : w19.cell? ⟨gb101, 1, none⟩ = some (.slice A0_1 l0_1.length c0_1) := (blk_cell BK101.out 1).trans rfl; have hcz20_2 : w19.cell? ⟨gb101, 2, none⟩ = some (.slice A0_2 l0_2.length c0_2) := (blk_cell BK101.out 2).trans rfl; have hfz20_0 := blk_frozen BK101.out 0; have hfz20_1 := blk_frozen BK101.out 1; have hfz20_2 := blk_frozen BK101.out 2) | ((with_reducible refine gate_callee (f := 19) rfl ?_); refine goesL_ (some 27) rfl rfl Try.func19 (by kernel_rfl) rfl #[.agg #[.int .i64 a0_0, .slice A0_1 l0_1.length c0_1, .slice A0_2 l0_2.length c0_2]] rfl bE ?_; (with_reducible refine (laws_toCircuit.calls k a0_0 _ _ l0_1 _ _ l0_2 t103 t104 t107 _ ?side1 ?side2 ?side3 ?side4 A10.out).mono ?_); (case side1 => exact bD ((Kd.C_below HR0_1.out HB.out))); (case side2 => exact HC0_1.out); (case side3 => exact bD ((Kd.C_below HR0_2.out HB.out))); (case side4 => exact HC0_2.out); rintro e w21 ⟨v105, v108, rfl, ho0, ho1, hb⟩; refine ⟨_, rfl, ?_⟩; have n0_ := am (Kd.R_lower ho0 (below_size (bB HB.out))); have n1_ := am (Kd.R_lower ho1 (below_size (bB HB.out))); have n2_ := am (blk_below (bA BK101.out) hb); have n3_ := am (below_step (bB HB.out) hb); clear BK101; clear HB; have HO106 := n0_; have HO109 := n1_; have BK101 := n2_; have HB := n3_; clear n0_ n1_ n2_ n3_; (try clear hb); (try clear hb2); (try clear hk); (try clear hi); (try clear ho0); (try clear ho1); clear A10) | ((with_reducible refine gate_callee (f := 31) rfl ?_); refine goesL_ (some 29) rfl rfl Try.func31 (by kernel_rfl) rfl #[.slice A1 l1.length c1] rfl bE ?_; (with_reducible refine (laws_toIntS.calls k _ _ l1 t110 _ ?side1 ?side2 A11.out).mono ?_); (case side1 => exact bD ((Kd.C_below HR1.out HB.out))); (case side2 => exact HC1.out); rintro e w22 ⟨v111, rfl, ho0, hb⟩; refine ⟨_, rfl, ?_⟩; have n0_ := am (Kd.R_below (bC HO106.out) hb); have n1_ := am (Kd.R_elder' (bC HO109.out) (Kd.R_base ho0) hb); have n2_ := am (Kd.R_lower (Kd.R_new' ho0 (Kd.R_lt (bC HO109.out))) (below_size (bB HB.out))); have n3_ := am (blk_below (bA BK101.out) hb); have n4_ := am (below_step (bB HB.out) hb); clear HO106; clear HO109; clear BK101; clear HB; have HO106 := n0_; have HO109 := n1_; have HO112 := n2_; have BK101 := n3_; have HB := n4_; clear n0_ n1_ n2_ n3_ n4_; (try clear hb); (try clear hb2); (try clear hk); (try clear hi); (try clear ho0); clear A11; obtain ⟨Ao23, co23, eo23⟩ := Kd.R_slice HO106.out; subst eo23; obtain ⟨Ao24, co24, eo24⟩ := Kd.R_slice HO109.out; subst eo24; obtain ⟨Ao25, co25, eo25⟩ := Kd.R_slice HO112.out; subst eo25) | ((with_reducible refine gate_callee (f := 36) rfl ?_); refine goesL_ (some 30) rfl rfl Try.func36 (by kernel_rfl) rfl #[.agg #[.int .i64 t103, .slice Ao23 t104.length co23, .slice Ao24 t107.length co24], .slice Ao25 t110.length co25] rfl bE ?_; (with_reducible refine (spec_RunCircuit.calls k t103 _ _ t104 _ _ t107 _ _ t110 t113 t116 _ ?side1 ?side2 ?side3 ?side4 ?side5 ?side6 A12.out).mono ?_); (case side1 => exact bD ((Kd.R_reads' HO106.out).2.2)); (case side2 => exact (Kd.R_reads' HO106.out).2.1); (case side3 => exact bD ((Kd.R_reads' HO109.out).2.2)); (case side4 => exact (Kd.R_reads' HO109.out).2.1); (case side5 => exact bD ((Kd.R_reads' HO112.out).2.2)); (case side6 => exact (Kd.R_reads' HO112.out).2.1); rintro e w26 ⟨v114, rfl, ho0, hb⟩; refine ⟨_, rfl, ?_⟩; have n0_ := am (Kd.R_below (bC HO106.out) hb); have n1_ := am (Kd.R_elder' (bC HO109.out) (Kd.R_base ho0) hb); have n2_ := am (Kd.R_elder' (bC HO112.out) (Kd.R_base ho0) hb); have n3_ := am (Kd.R_lower (Kd.R_new' (Kd.R_new' ho0 (Kd.R_lt (bC HO109.out))) (Kd.R_lt (bC HO112.out))) (below_size (bB HB.out))); have n4_ := am (blk_below (bA BK101.out) hb); have n5_ := am (below_step (bB HB.out) hb); clear HO106; clear HO109; clear HO112; clear BK101; clear HB; have HO106 := n0_; have HO109 := n1_; have HO112 := n2_; have HO115 := n3_; have BK101 := n4_; have HB := n5_; clear n0_ n1_ n2_ n3_ n4_ n5_; (try clear hb); (try clear hb2); (try clear hk); (try clear hi); (try clear ho0); have hcz27_0 : w26.cell? ⟨gb101, 0, none⟩ = some (.int .i64 a0_0) := (blk_cell BK101.out 0).trans rfl; have hcz27_1 : w26.cell? ⟨gb101, 1, none⟩ = some (.slice A0_1 l0_1.length c0_1) := (blk_cell BK101.out 1).trans rfl; have hcz27_2 : w26.cell? ⟨gb101, 2, none⟩ = some (.slice A0_2 l0_2.length c0_2) := (blk_cell BK101.out 2).trans rfl; have hfz27_0 := blk_frozen BK101.out 0; have hfz27_1 := blk_frozen BK101.out 1; have hfz27_2 := blk_frozen BK101.out 2) | ((with_reducible refine gate_callee (f := 19) rfl ?_); refine goesL_ (some 34) rfl rfl Try.func19 (by kernel_rfl) rfl #[.agg #[.int .i64 a0_0, .slice A0_1 l0_1.length c0_1, .slice A0_2 l0_2.length c0_2]] rfl bE ?_; (with_reducible refine (laws_toCircuit.calls k a0_0 _ _ l0_1 _ _ l0_2 t117 t118 t121 _ ?side1 ?side2 ?side3 ?side4 A13.out).mono ?_); (case side1 => exact bD ((Kd.C_below HR0_1.out HB.out))); (case side2 => exact HC0_1.out); (case side3 => exact bD ((Kd.C_below HR0_2.out HB.out))); (case side4 => exact HC0_2.out); rintro e w28 ⟨v119, v122, rfl, ho0, ho1, hb⟩; refine ⟨_, rfl, ?_⟩; have n0_ := am (Kd.R_elder' (bC HO106.out) (Kd.R_base ho0) hb); have n1_ := am (Kd.R_elder' (bC HO109.out) (Kd.R_base ho1) hb); have n2_ := am (Kd.R_elder' (bC HO112.out) (Kd.R_base ho1) hb); have n3_ := am (Kd.R_elder' (bC HO115.out) (Kd.R_base ho1) hb); have n4_ := am (Kd.R_lower (Kd.R_new' ho0 (Kd.R_lt (bC HO106.out))) (below_size (bB HB.out))); have n5_ := am (Kd.R_lower (Kd.R_new' (Kd.R_new' (Kd.R_new' ho1 (Kd.R_lt (bC HO109.out))) (Kd.R_lt (bC HO112.out))) (Kd.R_lt (bC HO115.out))) (below_size (bB HB.out))); have n6_ := am (blk_below (bA BK101.out) hb); have n7_ := am (below_step (bB HB.out) hb); clear HO106; clear HO109; clear HO112; clear HO115; clear BK101; clear HB; have HO106 := n0_; have HO109 := n1_; have HO112 := n2_; have HO115 := n3_; have HO120 := n4_; have HO123 := n5_; have BK101 := n6_; have HB := n7_; clear n0_ n1_ n2_ n3_ n4_ n5_ n6_ n7_; (try clear hb); (try clear hb2); (try clear hk); (try clear hi); (try clear ho0); (try clear ho1); clear A13) | ((with_reducible refine gate_dst (N := 8) rfl ?_); refine box_event ?hg (N := 8) ?hd (cs := #[.int .i64 0, .slice none 0 0, .slice none 0 0]) (t := 35) ?hr ?_; (case hd => rfl); (case hg => rfl); (case hr => first | (go_simp; done) | (go_simp; rfl)); intro gb124 hg w29 hbox hb; have n0_ := am (Kd.R_below (bC HO106.out) hb); have n1_ := am (Kd.R_below (bC HO109.out) hb); have n2_ := am (Kd.R_below (bC HO112.out) hb); have n3_ := am (Kd.R_below (bC HO115.out) hb); have n4_ := am (Kd.R_below (bC HO120.out) hb); have n5_ := am (Kd.R_below (bC HO123.out) hb); have n6_ := am (blk_below (bA BK101.out) hb); have n7_ := am (below_step (bB HB.out) hb); have n8_ := am (hbox); have n9_ := am ((by rw [hg]; exact (below_size (bB HB.out)) : w.heap.size ≤ gb124)); have n10_ := am ((by rw [hg]; exact (below_size (bB HB.out)) : w.heap.size ≤ gb124)); have n11_ := am ((by rw [hg]; exact Nat.ne_of_lt (blk_lt (g := gb101) (o := .cells #[.int .i64 a0_0, .slice A0_1 l0_1.length c0_1, .slice A0_2 l0_2.length c0_2] 30 (0, 0)) (bA BK101.out)) : gb101 ≠ gb124)); have n12_ := am ((by rw [hg]; exact Nat.ne_of_gt (blk_lt (g := gb101) (o := .cells #[.int .i64 a0_0, .slice A0_1 l0_1.length c0_1, .slice A0_2 l0_2.length c0_2] 30 (0, 0)) (bA BK101.out)) : gb124 ≠ gb101)); clear HO106; clear HO109; clear HO112; clear HO115; clear HO120; clear HO123; clear BK101; clear HB; have HO106 := n0_; have HO109 := n1_; have HO112 := n2_; have HO115 := n3_; have HO120 := n4_; have HO123 := n5_; have BK101 := n6_; have HB := n7_; have BK124 := n8_; have GW124 := n9_; have GE124 := n10_; have NB101_124 := n11_; have NB124_101 := n12_; clear n0_ n1_ n2_ n3_ n4_ n5_ n6_ n7_ n8_ n9_ n10_ n11_ n12_; clear hb hbox hg; have hnb30 := NB124_101.out; have hnc30 := NB101_124.out; have hcz31_0 : w29.cell? ⟨gb124, 0, none⟩ = some (.int .i64 0) := (blk_cell BK124.out 0).trans rfl; have hcz31_1 : w29.cell? ⟨gb124, 1, none⟩ = some (.slice none 0 0) := (blk_cell BK124.out 1).trans rfl; have hcz31_2 : w29.cell? ⟨gb124, 2, none⟩ = some (.slice none 0 0) := (blk_cell BK124.out 2).trans rfl; have hfz31_0 := blk_frozen BK124.out 0; have hfz31_1 := blk_frozen BK124.out 1; have hfz31_2 := blk_frozen BK124.out 2; obtain ⟨Ao32, co32, eo32⟩ := Kd.R_slice HO120.out; subst eo32; obtain ⟨Ao33, co33, eo33⟩ := Kd.R_slice HO123.out; subst eo33) | ((with_reducible refine gate_callee (f := 31) rfl ?_); refine goesL_ (some 36) rfl rfl Try.func31 (by kernel_rfl) rfl #[.slice A1 l1.length c1] rfl bE ?_; (with_reducible refine (laws_toIntS.calls k _ _ l1 t125 _ ?side1 ?side2 A14.out).mono ?_); (case side1 => exact Kd.C_below HR1.out (bB HB.out)); (case side2 => exact HC1.out); rintro e w34 ⟨v126, rfl, ho0, hb⟩; refine ⟨_, rfl, ?_⟩; have n0_ := am (Kd.R_below (bC ((Kd.R_mono (Kd.R_far (p := ⟨gb124, 2, none⟩) (Kd.R_far (p := ⟨gb124, 1, none⟩) (Kd.R_far (p := ⟨gb124, 0, none⟩) (Kd.R_types HO106.out BK124.out (by decide)) (fun _ hk => hk.2) (.int .i64 t117)) (fun _ hk => hk.2) (.slice Ao32 t118.length co32)) (fun _ hk => hk.2) (.slice Ao33 t121.length co33)) (fun _ h_ => h_.1)))) hb); have n1_ := am (Kd.R_elder' (bC ((Kd.R_mono (Kd.R_far (p := ⟨gb124, 2, none⟩) (Kd.R_far (p := ⟨gb124, 1, none⟩) (Kd.R_far (p := ⟨gb124, 0, none⟩) (Kd.R_types HO109.out BK124.out (by decide)) (fun _ hk => hk.2) (.int .i64 t117)) (fun _ hk => hk.2) (.slice Ao32 t118.length co32)) (fun _ hk => hk.2) (.slice Ao33 t121.length co33)) (fun _ h_ => h_.1)))) (Kd.R_base ho0) hb); have n2_ := am (Kd.R_elder' (bC ((Kd.R_mono (Kd.R_far (p := ⟨gb124, 2, none⟩) (Kd.R_far (p := ⟨gb124, 1, none⟩) (Kd.R_far (p := ⟨gb124, 0, none⟩) (Kd.R_types HO112.out BK124.out (by decide)) (fun _ hk => hk.2) (.int .i64 t117)) (fun _ hk => hk.2) (.slice Ao32 t118.length co32)) (fun _ hk => hk.2) (.slice Ao33 t121.length co33)) (fun _ h_ => h_.1)))) (Kd.R_base ho0) hb); have n3_ := am (Kd.R_elder' (bC ((Kd.R_mono (Kd.R_far (p := ⟨gb124, 2, none⟩) (Kd.R_far (p := ⟨gb124, 1, none⟩) (Kd.R_far (p := ⟨gb124, 0, none⟩) (Kd.R_types HO115.out BK124.out (by decide)) (fun _ hk => hk.2) (.int .i64 t117)) (fun _ hk => hk.2) (.slice Ao32 t118.length co32)) (fun _ hk => hk.2) (.slice Ao33 t121.length co33)) (fun _ h_ => h_.1)))) (Kd.R_base ho0) hb); have n4_ := am (Kd.R_below (bC ((Kd.R_mono (Kd.R_far (p := ⟨gb124, 2, none⟩) (Kd.R_far (p := ⟨gb124, 1, none⟩) (Kd.R_far (p := ⟨gb124, 0, none⟩) (Kd.R_types HO120.out BK124.out (by decide)) (fun _ hk => hk.2) (.int .i64 t117)) (fun _ hk => hk.2) (.slice Ao32 t118.length co32)) (fun _ hk => hk.2) (.slice Ao33 t121.length co33)) (fun _ h_ => h_.1)))) hb); have n5_ := am (Kd.R_elder' (bC ((Kd.R_mono (Kd.R_far (p := ⟨gb124, 2, none⟩) (Kd.R_far (p := ⟨gb124, 1, none⟩) (Kd.R_far (p := ⟨gb124, 0, none⟩) (Kd.R_types HO123.out BK124.out (by decide)) (fun _ hk => hk.2) (.int .i64 t117)) (fun _ hk => hk.2) (.slice Ao32 t118.length co32)) (fun _ hk => hk.2) (.slice Ao33 t121.length co33)) (fun _ h_ => h_.1)))) (Kd.R_base ho0) hb); have n6_ := am (Kd.R_lower (Kd.R_new' (Kd.R_new' (Kd.R_new' (Kd.R_new' ho0 (Kd.R_lt (bC ((Kd.R_mono (Kd.R_far (p := ⟨gb124, 2, none⟩) (Kd.R_far (p := ⟨gb124, 1, none⟩) (Kd.R_far (p := ⟨gb124, 0, none⟩) (Kd.R_types HO109.out BK124.out (by decide)) (fun _ hk => hk.2) (.int .i64 t117)) (fun _ hk => hk.2) (.slice Ao32 t118.length co32)) (fun _ hk => hk.2) (.slice Ao33 t121.length co33)) (fun _ h_ => h_.1)))))) (Kd.R_lt (bC ((Kd.R_mono (Kd.R_far (p := ⟨gb124, 2, none⟩) (Kd.R_far (p := ⟨gb124, 1, none⟩) (Kd.R_far (p := ⟨gb124, 0, none⟩) (Kd.R_types HO112.out BK124.out (by decide)) (fun _ hk => hk.2) (.int .i64 t117)) (fun _ hk => hk.2) (.slice Ao32 t118.length co32)) (fun _ hk => hk.2) (.slice Ao33 t121.length co33)) (fun _ h_ => h_.1)))))) (Kd.R_lt (bC ((Kd.R_mono (Kd.R_far (p := ⟨gb124, 2, none⟩) (Kd.R_far (p := ⟨gb124, 1, none⟩) (Kd.R_far (p := ⟨gb124, 0, none⟩) (Kd.R_types HO115.out BK124.out (by decide)) (fun _ hk => hk.2) (.int .i64 t117)) (fun _ hk => hk.2) (.slice Ao32 t118.length co32)) (fun _ hk => hk.2) (.slice Ao33 t121.length co33)) (fun _ h_ => h_.1)))))) (Kd.R_lt (bC ((Kd.R_mono (Kd.R_far (p := ⟨gb124, 2, none⟩) (Kd.R_far (p := ⟨gb124, 1, none⟩) (Kd.R_far (p := ⟨gb124, 0, none⟩) (Kd.R_types HO123.out BK124.out (by decide)) (fun _ hk => hk.2) (.int .i64 t117)) (fun _ hk => hk.2) (.slice Ao32 t118.length co32)) (fun _ hk => hk.2) (.slice Ao33 t121.length co33)) (fun _ h_ => h_.1)))))) (below_size (bB HB.out))); have n7_ := am (blk_below (g := gb101) (o := .cells #[.int .i64 a0_0, .slice A0_1 l0_1.length c0_1, .slice A0_2 l0_2.length c0_2] 30 (0, 0)) (by (with_reducible repeat (first | refine blk_drewN ?_ _ | refine blk_drew ?_ | refine blk_alloc ?_ _)); refine blk_far ?_ NB101_124.out _; (with_reducible repeat (first | refine blk_drewN ?_ _ | refine blk_drew ?_ | refine blk_alloc ?_ _)); refine blk_far ?_ NB101_124.out _; (with_reducible repeat (first | refine blk_drewN ?_ _ | refine blk_drew ?_ | refine blk_alloc ?_ _)); refine blk_far ?_ NB101_124.out _; (with_reducible repeat (first | refine blk_drewN ?_ _ | refine blk_drew ?_ | refine blk_alloc ?_ _)); exact BK101.out) hb); have n8_ := am (blk_below (g := gb124) (o := .cells #[.int .i64 t117, .slice Ao32 t118.length co32, .slice Ao33 t121.length co33] 35 (0, 0)) (by (with_reducible repeat (first | refine blk_drewN ?_ _ | refine blk_drew ?_ | refine blk_alloc ?_ _)); refine blk_put (cs := #[.int .i64 t117, .slice Ao32 t118.length co32, .slice none 0 0]) ?_ 2 _ rfl; (with_reducible repeat (first | refine blk_drewN ?_ _ | refine blk_drew ?_ | refine blk_alloc ?_ _)); refine blk_put (cs := #[.int .i64 t117, .slice none 0 0, .slice none 0 0]) ?_ 1 _ rfl; (with_reducible repeat (first | refine blk_drewN ?_ _ | refine blk_drew ?_ | refine blk_alloc ?_ _)); refine blk_put (cs := #[.int .i64 0, .slice none 0 0, .slice none 0 0]) ?_ 0 _ rfl; (with_reducible repeat (first | refine blk_drewN ?_ _ | refine blk_drew ?_ | refine blk_alloc ?_ _)); exact BK124.out) hb); have n9_ := am (below_step (bB HB.out) hb); clear HO106; clear HO109; clear HO112; clear HO115; clear HO120; clear HO123; clear BK101; clear BK124; clear HB; have HO106 := n0_; have HO109 := n1_; have HO112 := n2_; have HO115 := n3_; have HO120 := n4_; have HO123 := n5_; have HO127 := n6_; have BK101 := n7_; have BK124 := n8_; have HB := n9_; clear n0_ n1_ n2_ n3_ n4_ n5_ n6_ n7_ n8_ n9_; (try clear hb); (try clear hb2); (try clear hk); (try clear hi); (try clear ho0); clear A14; have hcz35_0 : w34.cell? ⟨gb124, 0, none⟩ = some (.int .i64 t117) := (blk_cell BK124.out 0).trans rfl; have hcz35_1 : w34.cell? ⟨gb124, 1, none⟩ = some (.slice Ao32 t118.length co32) := (blk_cell BK124.out 1).trans rfl; have hcz35_2 : w34.cell? ⟨gb124, 2, none⟩ = some (.slice Ao33 t121.length co33) := (blk_cell BK124.out 2).trans rfl; have hfz35_0 := blk_frozen BK124.out 0; have hfz35_1 := blk_frozen BK124.out 1; have hfz35_2 := blk_frozen BK124.out 2; obtain ⟨Ao36, co36, eo36⟩ := Kd.R_slice HO127.out; subst eo36) | ((with_reducible refine gate_callee (f := 27) rfl ?_); refine goesL_ (some 40) rfl rfl Try.func27 (by kernel_rfl) rfl #[.agg #[.int .i64 t117, .slice Ao32 t118.length co32, .slice Ao33 t121.length co33], .slice Ao36 t125.length co36] rfl bE ?_; (with_reducible refine (impl_RunCircuit.calls k t117 _ _ t118 _ _ t121 _ _ t125 t128 t131 _ ?side1 ?side2 ?side3 ?side4 ?side5 ?side6 A15.out).mono ?_); (case side1 => exact bD ((Kd.R_reads' HO120.out).2.2)); (case side2 => exact (Kd.R_reads' HO120.out).2.1); (case side3 => exact bD ((Kd.R_reads' HO123.out).2.2)); (case side4 => exact (Kd.R_reads' HO123.out).2.1); (case side5 => exact bD ((Kd.R_reads' HO127.out).2.2)); (case side6 => exact (Kd.R_reads' HO127.out).2.1); rintro e w37 ⟨v129, rfl, ho0, hb⟩; refine ⟨_, rfl, ?_⟩; have n0_ := am (Kd.R_below (bC HO106.out) hb); have n1_ := am (Kd.R_elder' (bC HO109.out) (Kd.R_base ho0) hb); have n2_ := am (Kd.R_elder' (bC HO112.out) (Kd.R_base ho0) hb); have n3_ := am (Kd.R_elder' (bC HO115.out) (Kd.R_base ho0) hb); have n4_ := am (Kd.R_below (bC HO120.out) hb); have n5_ := am (Kd.R_elder' (bC HO123.out) (Kd.R_base ho0) hb); have n6_ := am (Kd.R_elder' (bC HO127.out) (Kd.R_base ho0) hb); have n7_ := am (Kd.R_lower (Kd.R_new' (Kd.R_new' (Kd.R_new' (Kd.R_new' (Kd.R_new' ho0 (Kd.R_lt (bC HO109.out))) (Kd.R_lt (bC HO112.out))) (Kd.R_lt (bC HO115.out))) (Kd.R_lt (bC HO123.out))) (Kd.R_lt (bC HO127.out))) (below_size (bB HB.out))); have n8_ := am (blk_below (bA BK101.out) hb); have n9_ := am (blk_below (bA BK124.out) hb); have n10_ := am (below_step (bB HB.out) hb); clear HO106; clear HO109; clear HO112; clear HO115; clear HO120; clear HO123; clear HO127; clear BK101; clear BK124; clear HB; have HO106 := n0_; have HO109 := n1_; have HO112 := n2_; have HO115 := n3_; have HO120 := n4_; have HO123 := n5_; have HO127 := n6_; have HO130 := n7_; have BK101 := n8_; have BK124 := n9_; have HB := n10_; clear n0_ n1_ n2_ n3_ n4_ n5_ n6_ n7_ n8_ n9_ n10_; (try clear hb); (try clear hb2); (try clear hk); (try clear hi); (try clear ho0)))
   (try simp only [Act.put, qa8, qb8, qc8])
   go_cut [51] (fun v51 wc => ∃ (kq : Nat) (x51_15 : Bool), v51 = .bool x51_15 ∧ Aside0 (laws_FnExactRunCircuit.j0 kq l1 t113 t116 t125 t128 t131 x51_15 a0_0 l0_1 l0_2 t117 t118 t121 = some r) ∧ Aside0 (kq ≤ k) ∧ Aside0 (Kd.R (Kd.int .i64) 3 wc w.heap.size (fun k_ => some k_ ≠ ((.slice Ao36 t125.length co36) : Value).ownBlock ∧ some k_ ≠ (v129 : Value).ownBlock ∧ some k_ ≠ ((.slice Ao33 t121.length co33) : Value).ownBlock) v114 t113) ∧ Aside0 (Kd.R (Kd.int .i64) 3 wc w.heap.size (fun k_ => some k_ ≠ (v114 : Value).ownBlock ∧ some k_ ≠ (v129 : Value).ownBlock ∧ some k_ ≠ ((.slice Ao33 t121.length co33) : Value).ownBlock) (.slice Ao36 t125.length co36) t125) ∧ Aside0 (Kd.R (Kd.int .i64) 3 wc w.heap.size (fun k_ => some k_ ≠ (v114 : Value).ownBlock ∧ some k_ ≠ ((.slice Ao36 t125.length co36) : Value).ownBlock ∧ some k_ ≠ ((.slice Ao33 t121.length co33) : Value).ownBlock) v129 t128) ∧ Aside0 (Kd.R k46 46 wc w.heap.size (fun _ => True) (.slice Ao32 t118.length co32) t118) ∧ Aside0 (Kd.R (Kd.int .i64) 3 wc w.heap.size (fun k_ => some k_ ≠ (v114 : Value).ownBlock ∧ some k_ ≠ ((.slice Ao36 t125.length co36) : Value).ownBlock ∧ some k_ ≠ (v129 : Value).ownBlock) (.slice Ao33 t121.length co33) t121) ∧ Aside0 (wc.heap[gb101]? = some (.cells #[.int .i64 a0_0, (.slice A0_1 l0_1.length c0_1), (.slice A0_2 l0_2.length c0_2)] 30 (0, 0))) ∧ Aside0 (wc.heap[gb124]? = some (.cells #[.int .i64 t117, (.slice Ao32 t118.length co32), (.slice Ao33 t121.length co33)] 35 (0, 0))) ∧ Aside0 (Below w.heap.size w wc))
   case first =>
    have H := HC16.out; clear HC16
    replace H := Option.bind_eq_some_iff.mp H
    obtain ⟨t132, A380, H⟩ := H
    replace H : (if t132 = true then (laws_FnExactRunCircuit.j0 k l1 t113 t116 t125 t128 t131 (t131 != t116) a0_0 l0_1 l0_2 t117 t118 t121) else (laws_FnExactRunCircuit.j0 k l1 t113 t116 t125 t128 t131 true a0_0 l0_1 l0_2 t117 t118 t121)) = some r := H
    have A38 := am A380; clear A380
    by_cases c39 : t132 = true
    ·subst c39
     have H1 : (laws_FnExactRunCircuit.j0 k l1 t113 t116 t125 t128 t131 (t131 != t116) a0_0 l0_1 l0_2 t117 t118 t121) = some r := by rw [if_pos rfl] at H; exact H
     clear H; have H := H1; clear H1
     have H' := am H
     clear H
     obtain ⟨Ao40, co40, eo40⟩ := Kd.R_slice HO130.out
     subst eo40
     obtain ⟨Ao41, co41, eo41⟩ := Kd.R_slice HO115.out
     subst eo41
     go_wp2_with (first | ((with_reducible refine gate_callee (f := 32) rfl ?_); refine goesL_ (some 45) rfl rfl Try.func32 (by kernel_rfl) rfl #[.slice Ao40 t128.length co40, .slice Ao41 t113.length co41] rfl bE ?_; (with_reducible refine (laws_eqIntS.calls k _ _ t128 _ _ t113 true _ ?side1 ?side2 ?side3 ?side4 A38.out).mono ?_); (case side1 => exact bD ((Kd.R_reads' HO130.out).2.2)); (case side2 => exact (Kd.R_reads' HO130.out).2.1); (case side3 => exact bD ((Kd.R_reads' HO115.out).2.2)); (case side4 => exact (Kd.R_reads' HO115.out).2.1); rintro e w' ⟨rfl, ⟨nd, rfl⟩⟩; refine ⟨_, rfl, ?_⟩))
     go_meet
     case rel => exact ⟨_, ((t131 != t116)), (by first | rfl | (simp; done) | (simp [*]; done)), H', ⟨by first | omega | exact Nat.le_refl _⟩, ⟨by (with_reducible repeat (first | apply Kd.R_alloc | apply Kd.R_drewN | apply Kd.R_drew)); exact Kd.R_mono HO115.out (fun _ hk => ⟨hk.1.2, ⟨hk.2, hk.1.1.2⟩⟩)⟩, ⟨by (with_reducible repeat (first | apply Kd.R_alloc | apply Kd.R_drewN | apply Kd.R_drew)); exact Kd.R_mono HO127.out (fun _ hk => ⟨hk.1.1.2, ⟨hk.2, hk.1.2⟩⟩)⟩, ⟨by (with_reducible repeat (first | apply Kd.R_alloc | apply Kd.R_drewN | apply Kd.R_drew)); exact Kd.R_mono HO130.out (fun _ hk => ⟨hk.1.1.2, ⟨hk.2, hk.1.2⟩⟩)⟩, ⟨by (with_reducible repeat (first | apply Kd.R_alloc | apply Kd.R_drewN | apply Kd.R_drew)); exact Kd.R_mono HO120.out (fun _ hk => trivial)⟩, ⟨by (with_reducible repeat (first | apply Kd.R_alloc | apply Kd.R_drewN | apply Kd.R_drew)); exact Kd.R_mono HO123.out (fun _ hk => ⟨hk.1.1.2, ⟨hk.1.2, hk.2⟩⟩)⟩, ⟨bA BK101.out⟩, ⟨bA BK124.out⟩, ⟨bB HB.out⟩⟩
    ·replace c39 := Bool.eq_false_iff.mpr c39
     subst c39
     have H1 : (laws_FnExactRunCircuit.j0 k l1 t113 t116 t125 t128 t131 true a0_0 l0_1 l0_2 t117 t118 t121) = some r := by rw [if_neg (show ¬ (false = true) by decide)] at H; exact H
     clear H; have H := H1; clear H1
     have H' := am H
     clear H
     obtain ⟨Ao42, co42, eo42⟩ := Kd.R_slice HO130.out
     subst eo42
     obtain ⟨Ao43, co43, eo43⟩ := Kd.R_slice HO115.out
     subst eo43
     go_wp2_with (first | ((with_reducible refine gate_callee (f := 32) rfl ?_); refine goesL_ (some 45) rfl rfl Try.func32 (by kernel_rfl) rfl #[.slice Ao42 t128.length co42, .slice Ao43 t113.length co43] rfl bE ?_; (with_reducible refine (laws_eqIntS.calls k _ _ t128 _ _ t113 false _ ?side1 ?side2 ?side3 ?side4 A38.out).mono ?_); (case side1 => exact bD ((Kd.R_reads' HO130.out).2.2)); (case side2 => exact (Kd.R_reads' HO130.out).2.1); (case side3 => exact bD ((Kd.R_reads' HO115.out).2.2)); (case side4 => exact (Kd.R_reads' HO115.out).2.1); rintro e w' ⟨rfl, ⟨nd, rfl⟩⟩; refine ⟨_, rfl, ?_⟩))
     go_meet
     case rel => exact ⟨_, (true), (by first | rfl | (simp; done) | (simp [*]; done)), H', ⟨by first | omega | exact Nat.le_refl _⟩, ⟨by (with_reducible repeat (first | apply Kd.R_alloc | apply Kd.R_drewN | apply Kd.R_drew)); exact Kd.R_mono HO115.out (fun _ hk => ⟨hk.1.2, ⟨hk.2, hk.1.1.2⟩⟩)⟩, ⟨by (with_reducible repeat (first | apply Kd.R_alloc | apply Kd.R_drewN | apply Kd.R_drew)); exact Kd.R_mono HO127.out (fun _ hk => ⟨hk.1.1.2, ⟨hk.2, hk.1.2⟩⟩)⟩, ⟨by (with_reducible repeat (first | apply Kd.R_alloc | apply Kd.R_drewN | apply Kd.R_drew)); exact Kd.R_mono HO130.out (fun _ hk => ⟨hk.1.1.2, ⟨hk.2, hk.1.2⟩⟩)⟩, ⟨by (with_reducible repeat (first | apply Kd.R_alloc | apply Kd.R_drewN | apply Kd.R_drew)); exact Kd.R_mono HO120.out (fun _ hk => trivial)⟩, ⟨by (with_reducible repeat (first | apply Kd.R_alloc | apply Kd.R_drewN | apply Kd.R_drew)); exact Kd.R_mono HO123.out (fun _ hk => ⟨hk.1.1.2, ⟨hk.1.2, hk.2⟩⟩)⟩, ⟨bA BK101.out⟩, ⟨bA BK124.out⟩, ⟨bB HB.out⟩⟩
   case rest =>
    clear HC16
    try clear c1
    try clear c2
    try clear p2
    try clear c3
    try clear c3b0
    try clear c3b1
    try clear c6
    try clear c6b0
    try clear c8
    try clear c17
    try clear c19
    try clear c27
    try clear c30
    try clear c31
    try clear c32
    try clear c36
    try clear c39
    try clear hcz18_0
    try clear hcz18_1
    try clear hcz18_2
    try clear hcz20_0
    try clear hcz20_1
    try clear hcz20_2
    try clear hcz27_0
    try clear hcz27_1
    try clear hcz27_2
    try clear hcz31_0
    try clear hcz31_1
    try clear hcz31_2
    try clear hcz35_0
    try clear hcz35_1
    try clear hcz35_2
    try clear hcz8_0
    try clear hcz8_1
    try clear hcz8_2
    try clear hfz18_0
    try clear hfz18_1
    try clear hfz18_2
    try clear hfz20_0
    try clear hfz20_1
    try clear hfz20_2
    try clear hfz27_0
    try clear hfz27_1
    try clear hfz27_2
    try clear hfz31_0
    try clear hfz31_1
    try clear hfz31_2
    try clear hfz35_0
    try clear hfz35_1
    try clear hfz35_2
    try clear hfz8_0
    try clear hfz8_1
    try clear hfz8_2
    obtain ⟨kq, x51_15, rfl, HA, HJ15, HO_6, HO_9, HO_10, HO_125001, HO_125002, BK101, BK124, HB⟩ := hcut
    cases kq with
    | zero => exact absurd HA.out (by simp [laws_FnExactRunCircuit.j0])
    | succ kj15 =>
     have H := HA.out; clear HA
     simp only [laws_FnExactRunCircuit.j0] at H
     by_cases c44 : x51_15 = true
     ·subst c44
      have H1 : (some false) = some r := by rw [if_pos rfl] at H; exact H
      clear H; have H := H1; clear H1
      exact absurd ((Option.some.inj H).trans HT.out) (by decide)
     ·replace c44 := Bool.eq_false_iff.mpr c44
      subst c44
      have H1 : ((laws_toCircuit.f kj15 a0_0 l0_1 l0_2).bind fun bt133 => ((laws_eqCircuit.f kj15 t117 t118 t121 bt133.1 bt133.2.1 bt133.2.2).bind fun t140 => (if t140 = true then ((laws_toIntS.f kj15 l1).bind fun t141 => ((laws_eqIntS.f kj15 t125 t141).bind fun t144 => (if t144 = true then ((laws_markCircuit.f kj15 t117 t118 t121 1).bind fun bt145 => ((laws_markIntS.f kj15 t125 bt145.1).bind fun bt148 => (if bt148.1 < 0 then (laws_FnExactRunCircuit.j1 kj15 l1 t113 t116 t128 true a0_0 l0_1 l0_2) else ((laws_eqIntS.f kj15 t128 t113).bind fun t150 => (if t150 = true then (laws_FnExactRunCircuit.j1 kj15 l1 t113 t116 t128 (t131 != t116) a0_0 l0_1 l0_2) else (laws_FnExactRunCircuit.j1 kj15 l1 t113 t116 t128 true a0_0 l0_1 l0_2)))))) else (some false)))) else (some false)))) = some r := by rw [if_neg (show ¬ (false = true) by decide)] at H; exact H
      clear H; have H := H1; clear H1
      replace H := Option.bind_eq_some_iff.mp H
      obtain ⟨⟨t133, t134, t137⟩, A450, H⟩ := H
      replace H : ((laws_eqCircuit.f kj15 t117 t118 t121 t133 t134 t137).bind fun t140 => (if t140 = true then ((laws_toIntS.f kj15 l1).bind fun t141 => ((laws_eqIntS.f kj15 t125 t141).bind fun t144 => (if t144 = true then ((laws_markCircuit.f kj15 t117 t118 t121 1).bind fun bt145 => ((laws_markIntS.f kj15 t125 bt145.1).bind fun bt148 => (if bt148.1 < 0 then (laws_FnExactRunCircuit.j1 kj15 l1 t113 t116 t128 true a0_0 l0_1 l0_2) else ((laws_eqIntS.f kj15 t128 t113).bind fun t150 => (if t150 = true then (laws_FnExactRunCircuit.j1 kj15 l1 t113 t116 t128 (t131 != t116) a0_0 l0_1 l0_2) else (laws_FnExactRunCircuit.j1 kj15 l1 t113 t116 t128 true a0_0 l0_1 l0_2)))))) else (some false)))) else (some false))) = some r := H
      have A45 := am A450; clear A450
      replace H := Option.bind_eq_some_iff.mp H
      obtain ⟨t140, A460, H⟩ := H
      replace H : (if t140 = true then ((laws_toIntS.f kj15 l1).bind fun t141 => ((laws_eqIntS.f kj15 t125 t141).bind fun t144 => (if t144 = true then ((laws_markCircuit.f kj15 t117 t118 t121 1).bind fun bt145 => ((laws_markIntS.f kj15 t125 bt145.1).bind fun bt148 => (if bt148.1 < 0 then (laws_FnExactRunCircuit.j1 kj15 l1 t113 t116 t128 true a0_0 l0_1 l0_2) else ((laws_eqIntS.f kj15 t128 t113).bind fun t150 => (if t150 = true then (laws_FnExactRunCircuit.j1 kj15 l1 t113 t116 t128 (t131 != t116) a0_0 l0_1 l0_2) else (laws_FnExactRunCircuit.j1 kj15 l1 t113 t116 t128 true a0_0 l0_1 l0_2)))))) else (some false)))) else (some false)) = some r := H
      have A46 := am A460; clear A460
      by_cases c47 : t140 = true
      ·subst c47
       have H1 : ((laws_toIntS.f kj15 l1).bind fun t141 => ((laws_eqIntS.f kj15 t125 t141).bind fun t144 => (if t144 = true then ((laws_markCircuit.f kj15 t117 t118 t121 1).bind fun bt145 => ((laws_markIntS.f kj15 t125 bt145.1).bind fun bt148 => (if bt148.1 < 0 then (laws_FnExactRunCircuit.j1 kj15 l1 t113 t116 t128 true a0_0 l0_1 l0_2) else ((laws_eqIntS.f kj15 t128 t113).bind fun t150 => (if t150 = true then (laws_FnExactRunCircuit.j1 kj15 l1 t113 t116 t128 (t131 != t116) a0_0 l0_1 l0_2) else (laws_FnExactRunCircuit.j1 kj15 l1 t113 t116 t128 true a0_0 l0_1 l0_2)))))) else (some false)))) = some r := by rw [if_pos rfl] at H; exact H
       clear H; have H := H1; clear H1
       replace H := Option.bind_eq_some_iff.mp H
       obtain ⟨t141, A480, H⟩ := H
       replace H : ((laws_eqIntS.f kj15 t125 t141).bind fun t144 => (if t144 = true then ((laws_markCircuit.f kj15 t117 t118 t121 1).bind fun bt145 => ((laws_markIntS.f kj15 t125 bt145.1).bind fun bt148 => (if bt148.1 < 0 then (laws_FnExactRunCircuit.j1 kj15 l1 t113 t116 t128 true a0_0 l0_1 l0_2) else ((laws_eqIntS.f kj15 t128 t113).bind fun t150 => (if t150 = true then (laws_FnExactRunCircuit.j1 kj15 l1 t113 t116 t128 (t131 != t116) a0_0 l0_1 l0_2) else (laws_FnExactRunCircuit.j1 kj15 l1 t113 t116 t128 true a0_0 l0_1 l0_2)))))) else (some false))) = some r := H
       have A48 := am A480; clear A480
       replace H := Option.bind_eq_some_iff.mp H
       obtain ⟨t144, A490, H⟩ := H
       replace H : (if t144 = true then ((laws_markCircuit.f kj15 t117 t118 t121 1).bind fun bt145 => ((laws_markIntS.f kj15 t125 bt145.1).bind fun bt148 => (if bt148.1 < 0 then (laws_FnExactRunCircuit.j1 kj15 l1 t113 t116 t128 true a0_0 l0_1 l0_2) else ((laws_eqIntS.f kj15 t128 t113).bind fun t150 => (if t150 = true then (laws_FnExactRunCircuit.j1 kj15 l1 t113 t116 t128 (t131 != t116) a0_0 l0_1 l0_2) else (laws_FnExactRunCircuit.j1 kj15 l1 t113 t116 t128 true a0_0 l0_1 l0_2)))))) else (some false)) = some r := H
       have A49 := am A490; clear A490
       by_cases c50 : t144 = true
       ·subst c50
        have H1 : ((laws_markCircuit.f kj15 t117 t118 t121 1).bind fun bt145 => ((laws_markIntS.f kj15 t125 bt145.1).bind fun bt148 => (if bt148.1 < 0 then (laws_FnExactRunCircuit.j1 kj15 l1 t113 t116 t128 true a0_0 l0_1 l0_2) else ((laws_eqIntS.f kj15 t128 t113).bind fun t150 => (if t150 = true then (laws_FnExactRunCircuit.j1 kj15 l1 t113 t116 t128 (t131 != t116) a0_0 l0_1 l0_2) else (laws_FnExactRunCircuit.j1 kj15 l1 t113 t116 t128 true a0_0 l0_1 l0_2)))))) = some r := by rw [if_pos rfl] at H; exact H
        clear H; have H := H1; clear H1
        replace H := Option.bind_eq_some_iff.mp H
        obtain ⟨⟨t145, t146, t147⟩, A510, H⟩ := H
        replace H : ((laws_markIntS.f kj15 t125 t145).bind fun bt148 => (if bt148.1 < 0 then (laws_FnExactRunCircuit.j1 kj15 l1 t113 t116 t128 true a0_0 l0_1 l0_2) else ((laws_eqIntS.f kj15 t128 t113).bind fun t150 => (if t150 = true then (laws_FnExactRunCircuit.j1 kj15 l1 t113 t116 t128 (t131 != t116) a0_0 l0_1 l0_2) else (laws_FnExactRunCircuit.j1 kj15 l1 t113 t116 t128 true a0_0 l0_1 l0_2))))) = some r := H
        have A51 := am A510; clear A510
        replace H := Option.bind_eq_some_iff.mp H
        obtain ⟨⟨t148, t149⟩, A520, H⟩ := H
        replace H : (if t148 < 0 then (laws_FnExactRunCircuit.j1 kj15 l1 t113 t116 t128 true a0_0 l0_1 l0_2) else ((laws_eqIntS.f kj15 t128 t113).bind fun t150 => (if t150 = true then (laws_FnExactRunCircuit.j1 kj15 l1 t113 t116 t128 (t131 != t116) a0_0 l0_1 l0_2) else (laws_FnExactRunCircuit.j1 kj15 l1 t113 t116 t128 true a0_0 l0_1 l0_2)))) = some r := H
        have A52 := am A520; clear A520; have HC53 := am H; clear H
        try go_wp2
        have n0_ := am (Kd.R_drew HO_6.out); have n1_ := am (Kd.R_drew HO_9.out); have n2_ := am (Kd.R_drew HO_10.out); have n3_ := am (Kd.R_drew HO_125001.out); have n4_ := am (Kd.R_drew HO_125002.out); have n5_ := am (blk_drew BK101.out); have n6_ := am (blk_drew BK124.out); have n7_ := am (below_drew1 HB.out); clear HO_6; clear HO_9; clear HO_10; clear HO_125001; clear HO_125002; clear BK101; clear BK124; clear HB; have HO_6 := n0_; have HO_9 := n1_; have HO_10 := n2_; have HO_125001 := n3_; have HO_125002 := n4_; have BK101 := n5_; have BK124 := n6_; have HB := n7_; clear n0_ n1_ n2_ n3_ n4_ n5_ n6_ n7_
        refine start_ (n := 5) (S := fun w' => w'.cell? ⟨gb124, 0, none⟩ = some (.int .i64 t117) ∧ w'.cell? ⟨gb124, 1, none⟩ = some (.slice Ao32 t118.length co32) ∧ w'.cell? ⟨gb124, 2, none⟩ = some (.slice Ao33 t121.length co33) ∧ w'.cell? ⟨gb101, 0, none⟩ = some (.int .i64 a0_0) ∧ w'.cell? ⟨gb101, 1, none⟩ = some (.slice A0_1 l0_1.length c0_1) ∧ w'.cell? ⟨gb101, 2, none⟩ = some (.slice A0_2 l0_2.length c0_2)) (ds := []) #[false, false, false, false, false] (by kernel_rfl) rfl rfl ⟨(blk_cell BK124.out 0).trans rfl, (blk_cell BK124.out 1).trans rfl, (blk_cell BK124.out 2).trans rfl, (blk_cell BK101.out 0).trans rfl, (blk_cell BK101.out 1).trans rfl, (blk_cell BK101.out 2).trans rfl⟩ (fun hHeld => ?_)
        generalize wc.drew = w54 at HO_6 HO_9 HO_10 HO_125001 HO_125002 BK101 BK124 HB hHeld ⊢
        refine take_ (i := 0) (N := some 52) (v := ?_) (a' := ?_) #[true, false, false, false, false] rfl rfl (by kernel_rfl) (fun _ _ _ h => h) (Or.inl ⟨by rfl, ?_⟩) hHeld ?_ ?_; rotate_left
        ·rintro w' ⟨s0, s1, s2, s3, s4, s5⟩
         go_simp; with_reducible rfl
        rotate_left
        ·simp only [Act.put, qa8, qb8, qc8, i64_w, i32_w]
         rfl
        refine take_ (i := 1) (N := some 53) (v := ?_) (a' := ?_) #[true, true, false, false, false] rfl rfl (by kernel_rfl) (fun _ _ _ h => h) (Or.inl ⟨by rfl, ?_⟩) hHeld ?_ ?_; rotate_left
        ·rintro w' ⟨s0, s1, s2, s3, s4, s5⟩
         go_simp; with_reducible rfl
        rotate_left
        ·simp only [Act.put, qa8, qb8, qc8, i64_w, i32_w]
         rfl
        refine one_ (i := 2) (N := some 54) #[true, true, true, false, false] rfl rfl (by kernel_rfl) (by decide) (fun K hK => ?_)
        refine goes_ Try.func19 (by kernel_rfl) rfl #[.agg #[.int .i64 a0_0, .slice A0_1 l0_1.length c0_1, .slice A0_2 l0_2.length c0_2]] (by rfl) rfl rfl bE ?_
        with_reducible refine (laws_toCircuit.calls kj15 a0_0 _ _ l0_1 _ _ l0_2 t133 t134 t137 _ ?side1 ?side2 ?side3 ?side4 A45.out).mono ?_
        (case side1 => exact bD ((Kd.C_below HR0_1.out HB.out)))
        (case side2 => exact HC0_1.out)
        (case side3 => exact bD ((Kd.C_below HR0_2.out HB.out)))
        (case side4 => exact HC0_2.out)
        rintro e w55 ⟨v135, v138, rfl, ho0, ho1, hb⟩
        refine ⟨_, rfl, ?_⟩
        have n0_ := am (Kd.R_elder' (bC HO_6.out) (Kd.R_base ho1) hb); have n1_ := am (Kd.R_elder' (bC HO_9.out) (Kd.R_base ho1) hb); have n2_ := am (Kd.R_elder' (bC HO_10.out) (Kd.R_base ho1) hb); have n3_ := am (Kd.R_elder' (bC HO_125001.out) (Kd.R_base ho0) hb); have n4_ := am (Kd.R_elder' (bC HO_125002.out) (Kd.R_base ho1) hb); have n5_ := am (Kd.R_lower (Kd.R_new' ho0 (Kd.R_lt (bC HO_125001.out))) (below_size (bB HB.out))); have n6_ := am (Kd.R_lower (Kd.R_new' (Kd.R_new' (Kd.R_new' (Kd.R_new' ho1 (Kd.R_lt (bC HO_6.out))) (Kd.R_lt (bC HO_9.out))) (Kd.R_lt (bC HO_10.out))) (Kd.R_lt (bC HO_125002.out))) (below_size (bB HB.out))); have n7_ := am (blk_below (bA BK101.out) hb); have n8_ := am (blk_below (bA BK124.out) hb); have n9_ := am (below_step (bB HB.out) hb); clear HO_6; clear HO_9; clear HO_10; clear HO_125001; clear HO_125002; clear BK101; clear BK124; clear HB; have HO_6 := n0_; have HO_9 := n1_; have HO_10 := n2_; have HO_125001 := n3_; have HO_125002 := n4_; have HO136 := n5_; have HO139 := n6_; have BK101 := n7_; have BK124 := n8_; have HB := n9_; clear n0_ n1_ n2_ n3_ n4_ n5_ n6_ n7_ n8_ n9_; (try clear hb); (try clear hb2); (try clear hk); (try clear hi); (try clear ho0); (try clear ho1)
        obtain ⟨Ao56, co56, eo56⟩ := Kd.R_slice HO136.out
        (first | subst eo56 | (injection eo56 with f1_ f2_ f3_; have f4_ := f1_.symm; have f5_ := f3_.symm; clear f1_ f2_ f3_; subst f4_; subst f5_))
        obtain ⟨Ao57, co57, eo57⟩ := Kd.R_slice HO139.out
        (first | subst eo57 | (injection eo57 with f1_ f2_ f3_; have f4_ := f1_.symm; have f5_ := f3_.symm; clear f1_ f2_ f3_; subst f4_; subst f5_))
        refine hK.out _ _ ⟨(blk_cell BK124.out 0).trans rfl, (blk_cell BK124.out 1).trans rfl, (blk_cell BK124.out 2).trans rfl, (blk_cell BK101.out 0).trans rfl, (blk_cell BK101.out 1).trans rfl, (blk_cell BK101.out 2).trans rfl⟩ (fun hHeld => ?_)
        clear hK K
        refine norm_ (a' := ?_) ?_ ?_; rotate_left
        ·show Act.put _ (some 54) _ = _
         simp only [Act.put, qa8, qb8, qc8, i64_w, i32_w]
         rfl
        refine one_ (i := 3) (N := some 55) #[true, true, true, true, false] rfl rfl (by kernel_rfl) (by decide) (fun K hK => ?_)
        refine goes_ Try.func21 (by kernel_rfl) rfl #[.agg #[.int .i64 t117, .slice Ao32 t118.length co32, .slice Ao33 t121.length co33], .agg #[.int .i64 t133, .slice Ao56 t134.length co56, .slice Ao57 t137.length co57]] (by rfl) rfl rfl bE ?_
        with_reducible refine (laws_eqCircuit.calls kj15 t117 _ _ t118 _ _ t121 t133 _ _ t134 _ _ t137 true _ ?side1 ?side2 ?side3 ?side4 ?side5 ?side6 ?side7 ?side8 A46.out).mono ?_
        (case side1 => exact bD ((Kd.R_reads' HO_125001.out).2.2))
        (case side2 => exact (Kd.R_reads' HO_125001.out).2.1)
        (case side3 => exact bD ((Kd.R_reads' HO_125002.out).2.2))
        (case side4 => exact (Kd.R_reads' HO_125002.out).2.1)
        (case side5 => exact bD ((Kd.R_reads' HO136.out).2.2))
        (case side6 => exact (Kd.R_reads' HO136.out).2.1)
        (case side7 => exact bD ((Kd.R_reads' HO139.out).2.2))
        (case side8 => exact (Kd.R_reads' HO139.out).2.1)
        rintro e w58 ⟨rfl, hb⟩
        refine ⟨_, rfl, ?_⟩
        have n0_ := am (Kd.R_below (bC HO_6.out) hb); have n1_ := am (Kd.R_below (bC HO_9.out) hb); have n2_ := am (Kd.R_below (bC HO_10.out) hb); have n3_ := am (Kd.R_below (bC HO_125001.out) hb); have n4_ := am (Kd.R_below (bC HO_125002.out) hb); have n5_ := am (Kd.R_below (bC HO136.out) hb); have n6_ := am (Kd.R_below (bC HO139.out) hb); have n7_ := am (blk_below (bA BK101.out) hb); have n8_ := am (blk_below (bA BK124.out) hb); have n9_ := am (below_step (bB HB.out) hb); clear HO_6; clear HO_9; clear HO_10; clear HO_125001; clear HO_125002; clear HO136; clear HO139; clear BK101; clear BK124; clear HB; have HO_6 := n0_; have HO_9 := n1_; have HO_10 := n2_; have HO_125001 := n3_; have HO_125002 := n4_; have HO136 := n5_; have HO139 := n6_; have BK101 := n7_; have BK124 := n8_; have HB := n9_; clear n0_ n1_ n2_ n3_ n4_ n5_ n6_ n7_ n8_ n9_; (try clear hb); (try clear hb2); (try clear hk); (try clear hi)
        refine hK.out _ _ ⟨(blk_cell BK124.out 0).trans rfl, (blk_cell BK124.out 1).trans rfl, (blk_cell BK124.out 2).trans rfl, (blk_cell BK101.out 0).trans rfl, (blk_cell BK101.out 1).trans rfl, (blk_cell BK101.out 2).trans rfl⟩ (fun hHeld => ?_)
        clear hK K
        refine norm_ (a' := ?_) ?_ ?_; rotate_left
        ·show Act.put _ (some 55) _ = _
         simp only [Act.put, qa8, qb8, qc8, i64_w, i32_w]
         rfl
        refine pure_ (i := 4) (N := some 56) (v := ?_) (a' := ?_) #[true, true, true, true, true] rfl rfl (by kernel_rfl) (fun _ _ _ h => h) (Or.inl ⟨by rfl, ?_⟩) ?_ ?_; rotate_left
        ·intro w'
         go_simp; with_reducible rfl
        rotate_left
        ·simp only [Act.put, qa8, qb8, qc8, i64_w, i32_w]
         rfl
        refine done_ (by kernel_rfl) ?_
        go_upto_region 20 with (first | ((with_reducible refine gate_callee (f := 31) rfl ?_); refine goesL_ (some 59) rfl rfl Try.func31 (by kernel_rfl) rfl #[.slice A1 l1.length c1] rfl bE ?_; (with_reducible refine (laws_toIntS.calls kj15 _ _ l1 t141 _ ?side1 ?side2 A48.out).mono ?_); (case side1 => exact bD ((Kd.C_below HR1.out HB.out))); (case side2 => exact HC1.out); rintro e w59 ⟨v142, rfl, ho0, hb⟩; refine ⟨_, rfl, ?_⟩; have n0_ := am (Kd.R_elder' (bC HO_6.out) (Kd.R_base ho0) hb); have n1_ := am (Kd.R_elder' (bC HO_9.out) (Kd.R_base ho0) hb); have n2_ := am (Kd.R_elder' (bC HO_10.out) (Kd.R_base ho0) hb); have n3_ := am (Kd.R_below (bC HO_125001.out) hb); have n4_ := am (Kd.R_elder' (bC HO_125002.out) (Kd.R_base ho0) hb); have n5_ := am (Kd.R_below (bC HO136.out) hb); have n6_ := am (Kd.R_elder' (bC HO139.out) (Kd.R_base ho0) hb); have n7_ := am (Kd.R_lower (Kd.R_new' (Kd.R_new' (Kd.R_new' (Kd.R_new' (Kd.R_new' ho0 (Kd.R_lt (bC HO_6.out))) (Kd.R_lt (bC HO_9.out))) (Kd.R_lt (bC HO_10.out))) (Kd.R_lt (bC HO_125002.out))) (Kd.R_lt (bC HO139.out))) (below_size (bB HB.out))); have n8_ := am (blk_below (bA BK101.out) hb); have n9_ := am (blk_below (bA BK124.out) hb); have n10_ := am (below_step (bB HB.out) hb); clear HO_6; clear HO_9; clear HO_10; clear HO_125001; clear HO_125002; clear HO136; clear HO139; clear BK101; clear BK124; clear HB; have HO_6 := n0_; have HO_9 := n1_; have HO_10 := n2_; have HO_125001 := n3_; have HO_125002 := n4_; have HO136 := n5_; have HO139 := n6_; have HO143 := n7_; have BK101 := n8_; have BK124 := n9_; have HB := n10_; clear n0_ n1_ n2_ n3_ n4_ n5_ n6_ n7_ n8_ n9_ n10_; (try clear hb); (try clear hb2); (try clear hk); (try clear hi); (try clear ho0); obtain ⟨Ao60, co60, eo60⟩ := Kd.R_slice HO143.out; subst eo60) | ((with_reducible refine gate_callee (f := 32) rfl ?_); refine goesL_ (some 60) rfl rfl Try.func32 (by kernel_rfl) rfl #[.slice Ao36 t125.length co36, .slice Ao60 t141.length co60] rfl bE ?_; (with_reducible refine (laws_eqIntS.calls kj15 _ _ t125 _ _ t141 true _ ?side1 ?side2 ?side3 ?side4 A49.out).mono ?_); (case side1 => exact bD ((Kd.R_reads' HO_9.out).2.2)); (case side2 => exact (Kd.R_reads' HO_9.out).2.1); (case side3 => exact bD ((Kd.R_reads' HO143.out).2.2)); (case side4 => exact (Kd.R_reads' HO143.out).2.1); rintro e w' ⟨rfl, ⟨nd, rfl⟩⟩; refine ⟨_, rfl, ?_⟩; have hnb61 := NB124_101.out; have hnc61 := NB101_124.out; have hcz62_0 : w59.cell? ⟨gb124, 0, none⟩ = some (.int .i64 t117) := (blk_cell BK124.out 0).trans rfl; have hcz62_1 : w59.cell? ⟨gb124, 1, none⟩ = some (.slice Ao32 t118.length co32) := (blk_cell BK124.out 1).trans rfl; have hcz62_2 : w59.cell? ⟨gb124, 2, none⟩ = some (.slice Ao33 t121.length co33) := (blk_cell BK124.out 2).trans rfl; have hfz62_0 := blk_frozen BK124.out 0; have hfz62_1 := blk_frozen BK124.out 1; have hfz62_2 := blk_frozen BK124.out 2) | ((with_reducible refine gate_callee (f := 33) rfl ?_); refine goesL_ (some 64) rfl rfl Try.func33 (by kernel_rfl) rfl #[.agg #[.int .i64 t117, .slice Ao32 t118.length co32, .slice Ao33 t121.length co33], .int .i64 1] rfl bE ?_; (with_reducible refine (laws_markCircuit.calls kj15 t117 (fun k_ => some k_ = (.slice Ao32 t118.length co32 : Value).ownBlock) (.slice Ao32 t118.length co32) t118 (fun k_ => some k_ = (.slice Ao33 t121.length co33 : Value).ownBlock) (.slice Ao33 t121.length co33) t121 1 t145 t146 t147 w _ ?side1 ?side2 ?side3 A51.out).mono ?_); (case side1 => repeat (first | (with_reducible first | exact HB.out | apply below_alloc | apply pw_below_drewN | apply below_drew1 | refine below_set ?_ GE101.out | refine below_set ?_ GE124.out) | exact HB.out)); (case side2 => exact Kd.R_tight rfl HO_125001.out); (case side3 => exact Kd.R_tight rfl HO_125002.out); rintro e w63 ⟨rfl, hy0, hy1, hb, hkp⟩; refine ⟨_, rfl, ?_⟩; have n0_ := am (Kd.R_mono (ok' := fun k_ => some k_ ≠ (.slice Ao36 t125.length co36 : Value).ownBlock ∧ some k_ ≠ (v129 : Value).ownBlock ∧ some k_ ≠ (.slice Ao33 t121.length co33 : Value).ownBlock ∧ some k_ ≠ (.slice Ao57 t137.length co57 : Value).ownBlock ∧ some k_ ≠ (.slice Ao60 t141.length co60 : Value).ownBlock) (Kd.R_keptB ((Kd.R_apart' HO_6.out (Kd.R_typed HO_125001.out) (by decide))) hkp (fun k_ hk_ hs_ => Or.elim hs_ (fun e_ => (hk_.2) e_) (fun e_ => (hk_.1.1.1.2.2) e_))) (fun k_ hk_ => ⟨hk_.1.1.1.1.1, hk_.1.1.1.1.2.1, hk_.1.1.1.1.2.2, hk_.1.1.1.2, hk_.1.1.2⟩)); have n1_ := am (Kd.R_mono (ok' := fun k_ => some k_ ≠ (v114 : Value).ownBlock ∧ some k_ ≠ (v129 : Value).ownBlock ∧ some k_ ≠ (.slice Ao33 t121.length co33 : Value).ownBlock ∧ some k_ ≠ (.slice Ao57 t137.length co57 : Value).ownBlock ∧ some k_ ≠ (.slice Ao60 t141.length co60 : Value).ownBlock) (Kd.R_keptB ((Kd.R_apart' HO_9.out (Kd.R_typed HO_125001.out) (by decide))) hkp (fun k_ hk_ hs_ => Or.elim hs_ (fun e_ => (hk_.2) e_) (fun e_ => (hk_.1.1.1.2.2) e_))) (fun k_ hk_ => ⟨hk_.1.1.1.1.1, hk_.1.1.1.1.2.1, hk_.1.1.1.1.2.2, hk_.1.1.1.2, hk_.1.1.2⟩)); have n2_ := am (Kd.R_mono (ok' := fun k_ => some k_ ≠ (v114 : Value).ownBlock ∧ some k_ ≠ (.slice Ao36 t125.length co36 : Value).ownBlock ∧ some k_ ≠ (.slice Ao33 t121.length co33 : Value).ownBlock ∧ some k_ ≠ (.slice Ao57 t137.length co57 : Value).ownBlock ∧ some k_ ≠ (.slice Ao60 t141.length co60 : Value).ownBlock) (Kd.R_keptB ((Kd.R_apart' HO_10.out (Kd.R_typed HO_125001.out) (by decide))) hkp (fun k_ hk_ hs_ => Or.elim hs_ (fun e_ => (hk_.2) e_) (fun e_ => (hk_.1.1.1.2.2) e_))) (fun k_ hk_ => ⟨hk_.1.1.1.1.1, hk_.1.1.1.1.2.1, hk_.1.1.1.1.2.2, hk_.1.1.1.2, hk_.1.1.2⟩)); have n3_ := am (Kd.R_reok rfl hy0 (fun k_ e_ => HO_125001.out.1 k_ e_)); have n4_ := am (Kd.R_reok rfl hy1 (fun k_ e_ => HO_125002.out.1 k_ e_)); have n5_ := am (blk_kept (bA BK101.out) hkp (fun hs_ => Or.elim hs_ (fun e_ => (fun e_ => (Kd.R_ne HO_125001.out BK101.out (by decide)) e_) e_) (fun e_ => (fun e_ => (Kd.R_ne HO_125002.out BK101.out (by decide)) e_) e_))); have n6_ := am (blk_kept (bA BK124.out) hkp (fun hs_ => Or.elim hs_ (fun e_ => (fun e_ => (Kd.R_ne HO_125001.out BK124.out (by decide)) e_) e_) (fun e_ => (fun e_ => (Kd.R_ne HO_125002.out BK124.out (by decide)) e_) e_))); have n7_ := am (Kd.R_mono (ok' := fun k_ => some k_ ≠ (.slice Ao32 t118.length co32 : Value).ownBlock) (Kd.R_keptB ((Kd.R_apart' HO136.out (Kd.R_typed HO_125002.out) (by decide))) hkp (fun k_ hk_ hs_ => Or.elim hs_ (fun e_ => (hk_.1.2) e_) (fun e_ => (hk_.2) e_))) (fun k_ hk_ => hk_.1.1.2)); have n8_ := am (Kd.R_mono (ok' := fun k_ => some k_ ≠ (v114 : Value).ownBlock ∧ some k_ ≠ (.slice Ao36 t125.length co36 : Value).ownBlock ∧ some k_ ≠ (v129 : Value).ownBlock ∧ some k_ ≠ (.slice Ao33 t121.length co33 : Value).ownBlock ∧ some k_ ≠ (.slice Ao60 t141.length co60 : Value).ownBlock) (Kd.R_keptB ((Kd.R_apart' HO139.out (Kd.R_typed HO_125001.out) (by decide))) hkp (fun k_ hk_ hs_ => Or.elim hs_ (fun e_ => (hk_.2) e_) (fun e_ => (hk_.1.1.2) e_))) (fun k_ hk_ => ⟨hk_.1.1.1.1.1.1.2, hk_.1.1.1.1.1.2, hk_.1.1.1.1.2, hk_.1.1.1.2, hk_.1.1.2⟩)); have n9_ := am (Kd.R_mono (ok' := fun k_ => some k_ ≠ (v114 : Value).ownBlock ∧ some k_ ≠ (.slice Ao36 t125.length co36 : Value).ownBlock ∧ some k_ ≠ (v129 : Value).ownBlock ∧ some k_ ≠ (.slice Ao33 t121.length co33 : Value).ownBlock ∧ some k_ ≠ (.slice Ao57 t137.length co57 : Value).ownBlock) (Kd.R_keptB ((Kd.R_apart' HO143.out (Kd.R_typed HO_125001.out) (by decide))) hkp (fun k_ hk_ hs_ => Or.elim hs_ (fun e_ => (hk_.2) e_) (fun e_ => (hk_.1.1.2) e_))) (fun k_ hk_ => ⟨hk_.1.1.1.1.1.1.2, hk_.1.1.1.1.1.2, hk_.1.1.1.1.2, hk_.1.1.1.2, hk_.1.1.2⟩)); have n10_ := am (hb); clear HO_6; clear HO_9; clear HO_10; clear HO_125001; clear HO_125002; clear BK101; clear BK124; clear HO136; clear HO139; clear HO143; clear HB; have HO_6 := n0_; have HO_9 := n1_; have HO_10 := n2_; have HO_125001 := n3_; have HO_125002 := n4_; have BK101 := n5_; have BK124 := n6_; have HO136 := n7_; have HO139 := n8_; have HO143 := n9_; have HB := n10_; clear n0_ n1_ n2_ n3_ n4_ n5_ n6_ n7_ n8_ n9_ n10_; (try clear hb); (try clear hkp); (try clear hy0); (try clear hy1)) | ((with_reducible refine gate_callee (f := 34) rfl ?_); refine goesL_ (some 67) rfl rfl Try.func34 (by kernel_rfl) rfl #[.slice Ao36 t125.length co36, .int .i64 t145] rfl bE ?_; (with_reducible refine (laws_markIntS.calls kj15 (fun k_ => some k_ = (.slice Ao36 t125.length co36 : Value).ownBlock) (.slice Ao36 t125.length co36) t125 t145 t148 t149 w _ ?side1 ?side2 A52.out).mono ?_); (case side1 => repeat (first | (with_reducible first | exact HB.out | apply below_alloc | apply pw_below_drewN | apply below_drew1 | refine below_set ?_ GE101.out | refine below_set ?_ GE124.out) | exact HB.out)); (case side2 => exact Kd.R_tight rfl HO_9.out); rintro e w64 ⟨rfl, hy0, hb, hkp⟩; refine ⟨_, rfl, ?_⟩; have n0_ := am (Kd.R_mono (ok' := fun k_ => some k_ ≠ (.slice Ao36 t125.length co36 : Value).ownBlock ∧ some k_ ≠ (v129 : Value).ownBlock ∧ some k_ ≠ (.slice Ao33 t121.length co33 : Value).ownBlock ∧ some k_ ≠ (.slice Ao57 t137.length co57 : Value).ownBlock ∧ some k_ ≠ (.slice Ao60 t141.length co60 : Value).ownBlock) (Kd.R_keptB (HO_6.out) hkp (fun k_ hk_ hs_ => (hk_.1) hs_)) (fun k_ hk_ => ⟨hk_.1.1, hk_.1.2.1, hk_.1.2.2.1, hk_.1.2.2.2.1, hk_.1.2.2.2.2⟩)); have n1_ := am (Kd.R_reok rfl hy0 (fun k_ e_ => HO_9.out.1 k_ e_)); have n2_ := am (Kd.R_mono (ok' := fun k_ => some k_ ≠ (v114 : Value).ownBlock ∧ some k_ ≠ (.slice Ao36 t125.length co36 : Value).ownBlock ∧ some k_ ≠ (.slice Ao33 t121.length co33 : Value).ownBlock ∧ some k_ ≠ (.slice Ao57 t137.length co57 : Value).ownBlock ∧ some k_ ≠ (.slice Ao60 t141.length co60 : Value).ownBlock) (Kd.R_keptB (HO_10.out) hkp (fun k_ hk_ hs_ => (hk_.2.1) hs_)) (fun k_ hk_ => ⟨hk_.1.1, hk_.1.2.1, hk_.1.2.2.1, hk_.1.2.2.2.1, hk_.1.2.2.2.2⟩)); have n3_ := am (Kd.R_mono (ok' := fun k_ => some k_ ≠ (.slice Ao56 t134.length co56 : Value).ownBlock) (Kd.R_keptB ((Kd.R_apart' HO_125001.out (Kd.R_typed HO_9.out) (by decide))) hkp (fun k_ hk_ hs_ => (hk_.2) hs_)) (fun k_ hk_ => hk_.1.1.2)); have n4_ := am (Kd.R_mono (ok' := fun k_ => some k_ ≠ (v114 : Value).ownBlock ∧ some k_ ≠ (.slice Ao36 t125.length co36 : Value).ownBlock ∧ some k_ ≠ (v129 : Value).ownBlock ∧ some k_ ≠ (.slice Ao57 t137.length co57 : Value).ownBlock ∧ some k_ ≠ (.slice Ao60 t141.length co60 : Value).ownBlock) (Kd.R_keptB (HO_125002.out) hkp (fun k_ hk_ hs_ => (hk_.1.1.2.1) hs_)) (fun k_ hk_ => ⟨hk_.1.1.1.1, hk_.1.1.1.2.1, hk_.1.1.1.2.2, hk_.1.1.2, hk_.1.2⟩)); have n5_ := am (blk_kept (bA BK101.out) hkp (fun hs_ => (fun e_ => (Kd.R_ne HO_9.out BK101.out (by decide)) e_) hs_)); have n6_ := am (blk_kept (bA BK124.out) hkp (fun hs_ => (fun e_ => (Kd.R_ne HO_9.out BK124.out (by decide)) e_) hs_)); have n7_ := am (Kd.R_mono (ok' := fun k_ => some k_ ≠ (.slice Ao32 t118.length co32 : Value).ownBlock) (Kd.R_keptB ((Kd.R_apart' HO136.out (Kd.R_typed HO_9.out) (by decide))) hkp (fun k_ hk_ hs_ => (hk_.2) hs_)) (fun k_ hk_ => hk_.1.1)); have n8_ := am (Kd.R_mono (ok' := fun k_ => some k_ ≠ (v114 : Value).ownBlock ∧ some k_ ≠ (.slice Ao36 t125.length co36 : Value).ownBlock ∧ some k_ ≠ (v129 : Value).ownBlock ∧ some k_ ≠ (.slice Ao33 t121.length co33 : Value).ownBlock ∧ some k_ ≠ (.slice Ao60 t141.length co60 : Value).ownBlock) (Kd.R_keptB (HO139.out) hkp (fun k_ hk_ hs_ => (hk_.2.1) hs_)) (fun k_ hk_ => ⟨hk_.1.1, hk_.1.2.1, hk_.1.2.2.1, hk_.1.2.2.2.1, hk_.1.2.2.2.2⟩)); have n9_ := am (Kd.R_mono (ok' := fun k_ => some k_ ≠ (v114 : Value).ownBlock ∧ some k_ ≠ (.slice Ao36 t125.length co36 : Value).ownBlock ∧ some k_ ≠ (v129 : Value).ownBlock ∧ some k_ ≠ (.slice Ao33 t121.length co33 : Value).ownBlock ∧ some k_ ≠ (.slice Ao57 t137.length co57 : Value).ownBlock) (Kd.R_keptB (HO143.out) hkp (fun k_ hk_ hs_ => (hk_.2.1) hs_)) (fun k_ hk_ => ⟨hk_.1.1, hk_.1.2.1, hk_.1.2.2.1, hk_.1.2.2.2.1, hk_.1.2.2.2.2⟩)); have n10_ := am (hb); clear HO_6; clear HO_9; clear HO_10; clear HO_125001; clear HO_125002; clear BK101; clear BK124; clear HO136; clear HO139; clear HO143; clear HB; have HO_6 := n0_; have HO_9 := n1_; have HO_10 := n2_; have HO_125001 := n3_; have HO_125002 := n4_; have BK101 := n5_; have BK124 := n6_; have HO136 := n7_; have HO139 := n8_; have HO143 := n9_; have HB := n10_; clear n0_ n1_ n2_ n3_ n4_ n5_ n6_ n7_ n8_ n9_ n10_; (try clear hb); (try clear hkp); (try clear hy0)))
        (try simp only [Act.put, qa8, qb8, qc8])
        go_cut [80] (fun v80 wc => ∃ (kq : Nat) (x80_52 : Bool), v80 = .bool x80_52 ∧ Aside0 (laws_FnExactRunCircuit.j1 kq l1 t113 t116 t128 x80_52 a0_0 l0_1 l0_2 = some r) ∧ Aside0 (kq ≤ kj15) ∧ Aside0 (Kd.R (Kd.int .i64) 3 wc w.heap.size (fun k_ => some k_ ≠ (v129 : Value).ownBlock ∧ some k_ ≠ ((.slice Ao33 t121.length co33) : Value).ownBlock) v114 t113) ∧ Aside0 (Kd.R (Kd.int .i64) 3 wc w.heap.size (fun k_ => some k_ ≠ (v114 : Value).ownBlock ∧ some k_ ≠ ((.slice Ao33 t121.length co33) : Value).ownBlock) v129 t128) ∧ Aside0 (Kd.R k46 46 wc w.heap.size (fun _ => True) (.slice Ao32 t118.length co32) t146) ∧ Aside0 (Kd.R (Kd.int .i64) 3 wc w.heap.size (fun k_ => some k_ ≠ (v114 : Value).ownBlock ∧ some k_ ≠ (v129 : Value).ownBlock) (.slice Ao33 t121.length co33) t147) ∧ Aside0 (wc.heap[gb101]? = some (.cells #[.int .i64 a0_0, (.slice A0_1 l0_1.length c0_1), (.slice A0_2 l0_2.length c0_2)] 30 (0, 0))) ∧ Aside0 (wc.heap[gb124]? = some (.cells #[.int .i64 t117, (.slice Ao32 t118.length co32), (.slice Ao33 t121.length co33)] 35 (0, 0))) ∧ Aside0 (Below w.heap.size w wc))
        case first =>
         have H := HC53.out; clear HC53
         by_cases c65 : t148 < 0
         ·rw [if_pos c65] at H
          have c65b0 : decide (t148 < 0) = true := decide_eq_true c65
          clear c65
          (first | rw [c65b0] | (simp only [i64_w, i32_w]; rw [c65b0]) | skip)
          have H' := am H
          clear H
          go_wp2
          go_meet
          case rel => exact ⟨_, (true), (by first | rfl | (simp; done) | (simp [*]; done)), H', ⟨by have := HJ15.out; first | omega | exact Nat.le_refl _⟩, ⟨by (with_reducible repeat (first | apply Kd.R_alloc | apply Kd.R_drewN | apply Kd.R_drew)); exact Kd.R_mono HO_6.out (fun _ hk => ⟨hk.2.1, hk.2.2.1⟩)⟩, ⟨by (with_reducible repeat (first | apply Kd.R_alloc | apply Kd.R_drewN | apply Kd.R_drew)); exact Kd.R_mono HO_10.out (fun _ hk => ⟨hk.1, hk.2.2.1⟩)⟩, ⟨by (with_reducible repeat (first | apply Kd.R_alloc | apply Kd.R_drewN | apply Kd.R_drew)); exact Kd.R_mono HO_125001.out (fun _ hk => trivial)⟩, ⟨by (with_reducible repeat (first | apply Kd.R_alloc | apply Kd.R_drewN | apply Kd.R_drew)); exact Kd.R_mono HO_125002.out (fun _ hk => ⟨hk.1, hk.2.2.1⟩)⟩, ⟨bA BK101.out⟩, ⟨bA BK124.out⟩, ⟨bB HB.out⟩⟩
         ·rw [if_neg c65] at H
          have c65b0 : decide (t148 < 0) = false := decide_eq_false c65
          clear c65
          (first | rw [c65b0] | (simp only [i64_w, i32_w]; rw [c65b0]) | skip)
          replace H := Option.bind_eq_some_iff.mp H
          obtain ⟨t150, A660, H⟩ := H
          replace H : (if t150 = true then (laws_FnExactRunCircuit.j1 kj15 l1 t113 t116 t128 (t131 != t116) a0_0 l0_1 l0_2) else (laws_FnExactRunCircuit.j1 kj15 l1 t113 t116 t128 true a0_0 l0_1 l0_2)) = some r := H
          have A66 := am A660; clear A660
          by_cases c67 : t150 = true
          ·subst c67
           have H1 : (laws_FnExactRunCircuit.j1 kj15 l1 t113 t116 t128 (t131 != t116) a0_0 l0_1 l0_2) = some r := by rw [if_pos rfl] at H; exact H
           clear H; have H := H1; clear H1
           have H' := am H
           clear H
           obtain ⟨Ao68, co68, eo68⟩ := Kd.R_slice HO_10.out
           subst eo68
           obtain ⟨Ao69, co69, eo69⟩ := Kd.R_slice HO_6.out
           subst eo69
           go_wp2_with (first | (go_at_call 32; (with_reducible refine (laws_eqIntS.calls kj15 _ _ t128 _ _ t113 true _ ?side1 ?side2 ?side3 ?side4 A66.out).mono ?_); (case side1 => exact bD ((Kd.R_reads' HO_10.out).2.2)); (case side2 => exact (Kd.R_reads' HO_10.out).2.1); (case side3 => exact bD ((Kd.R_reads' HO_6.out).2.2)); (case side4 => exact (Kd.R_reads' HO_6.out).2.1); rintro e w' ⟨rfl, ⟨nd, rfl⟩⟩))
           go_meet
           case rel => exact ⟨_, ((t131 != t116)), (by first | rfl | (simp; done) | (simp [*]; done)), H', ⟨by have := HJ15.out; first | omega | exact Nat.le_refl _⟩, ⟨by (with_reducible repeat (first | apply Kd.R_alloc | apply Kd.R_drewN | apply Kd.R_drew)); exact Kd.R_mono HO_6.out (fun _ hk => ⟨hk.2.1, hk.2.2.1⟩)⟩, ⟨by (with_reducible repeat (first | apply Kd.R_alloc | apply Kd.R_drewN | apply Kd.R_drew)); exact Kd.R_mono HO_10.out (fun _ hk => ⟨hk.1, hk.2.2.1⟩)⟩, ⟨by (with_reducible repeat (first | apply Kd.R_alloc | apply Kd.R_drewN | apply Kd.R_drew)); exact Kd.R_mono HO_125001.out (fun _ hk => trivial)⟩, ⟨by (with_reducible repeat (first | apply Kd.R_alloc | apply Kd.R_drewN | apply Kd.R_drew)); exact Kd.R_mono HO_125002.out (fun _ hk => ⟨hk.1, hk.2.2.1⟩)⟩, ⟨bA BK101.out⟩, ⟨bA BK124.out⟩, ⟨bB HB.out⟩⟩
          ·replace c67 := Bool.eq_false_iff.mpr c67
           subst c67
           have H1 : (laws_FnExactRunCircuit.j1 kj15 l1 t113 t116 t128 true a0_0 l0_1 l0_2) = some r := by rw [if_neg (show ¬ (false = true) by decide)] at H; exact H
           clear H; have H := H1; clear H1
           have H' := am H
           clear H
           obtain ⟨Ao70, co70, eo70⟩ := Kd.R_slice HO_10.out
           subst eo70
           obtain ⟨Ao71, co71, eo71⟩ := Kd.R_slice HO_6.out
           subst eo71
           go_wp2_with (first | (go_at_call 32; (with_reducible refine (laws_eqIntS.calls kj15 _ _ t128 _ _ t113 false _ ?side1 ?side2 ?side3 ?side4 A66.out).mono ?_); (case side1 => exact bD ((Kd.R_reads' HO_10.out).2.2)); (case side2 => exact (Kd.R_reads' HO_10.out).2.1); (case side3 => exact bD ((Kd.R_reads' HO_6.out).2.2)); (case side4 => exact (Kd.R_reads' HO_6.out).2.1); rintro e w' ⟨rfl, ⟨nd, rfl⟩⟩))
           go_meet
           case rel => exact ⟨_, (true), (by first | rfl | (simp; done) | (simp [*]; done)), H', ⟨by have := HJ15.out; first | omega | exact Nat.le_refl _⟩, ⟨by (with_reducible repeat (first | apply Kd.R_alloc | apply Kd.R_drewN | apply Kd.R_drew)); exact Kd.R_mono HO_6.out (fun _ hk => ⟨hk.2.1, hk.2.2.1⟩)⟩, ⟨by (with_reducible repeat (first | apply Kd.R_alloc | apply Kd.R_drewN | apply Kd.R_drew)); exact Kd.R_mono HO_10.out (fun _ hk => ⟨hk.1, hk.2.2.1⟩)⟩, ⟨by (with_reducible repeat (first | apply Kd.R_alloc | apply Kd.R_drewN | apply Kd.R_drew)); exact Kd.R_mono HO_125001.out (fun _ hk => trivial)⟩, ⟨by (with_reducible repeat (first | apply Kd.R_alloc | apply Kd.R_drewN | apply Kd.R_drew)); exact Kd.R_mono HO_125002.out (fun _ hk => ⟨hk.1, hk.2.2.1⟩)⟩, ⟨bA BK101.out⟩, ⟨bA BK124.out⟩, ⟨bB HB.out⟩⟩
        case rest =>
         clear HC53
         try clear c1
         try clear c2
         try clear p2
         try clear c3
         try clear c3b0
         try clear c3b1
         try clear c4
         try clear c5
         try clear c6
         try clear c6b0
         try clear c8
         try clear c17
         try clear c19
         try clear c21
         try clear c27
         try clear c30
         try clear c31
         try clear c32
         try clear c33
         try clear c34
         try clear c36
         try clear c39
         try clear c44
         try clear c47
         try clear c50
         try clear c61
         try clear c65
         try clear c65b0
         try clear c67
         try clear hcz18_0
         try clear hcz18_1
         try clear hcz18_2
         try clear hcz20_0
         try clear hcz20_1
         try clear hcz20_2
         try clear hcz27_0
         try clear hcz27_1
         try clear hcz27_2
         try clear hcz31_0
         try clear hcz31_1
         try clear hcz31_2
         try clear hcz35_0
         try clear hcz35_1
         try clear hcz35_2
         try clear hcz62_0
         try clear hcz62_1
         try clear hcz62_2
         try clear hcz8_0
         try clear hcz8_1
         try clear hcz8_2
         try clear hfz18_0
         try clear hfz18_1
         try clear hfz18_2
         try clear hfz20_0
         try clear hfz20_1
         try clear hfz20_2
         try clear hfz27_0
         try clear hfz27_1
         try clear hfz27_2
         try clear hfz31_0
         try clear hfz31_1
         try clear hfz31_2
         try clear hfz35_0
         try clear hfz35_1
         try clear hfz35_2
         try clear hfz62_0
         try clear hfz62_1
         try clear hfz62_2
         try clear hfz8_0
         try clear hfz8_1
         try clear hfz8_2
         try clear p2
         obtain ⟨kq, x80_52, rfl, HA, HJ52, HO_6, HO_10, HO_125001, HO_125002, BK101, BK124, HB⟩ := hcut
         have hl125001_52 := (Kd.R_reads' HO_125001.out).1
         rw [hl125001_52] at HO_125001
         (try simp only [hl125001_52])
         (try simp only [hl125001_52] at BK101)
         (try simp only [hl125001_52] at BK124)
         (try simp only [hl125001_52] at HO_6)
         (try simp only [hl125001_52] at HO_10)
         (try simp only [hl125001_52] at HO_125002)
         have hl125002_52 := (Kd.R_reads' HO_125002.out).1
         rw [hl125002_52] at HO_125002
         (try simp only [hl125002_52])
         (try simp only [hl125002_52] at BK101)
         (try simp only [hl125002_52] at BK124)
         (try simp only [hl125002_52] at HO_6)
         (try simp only [hl125002_52] at HO_10)
         (try simp only [hl125002_52] at HO_125001)
         cases kq with
         | zero => exact absurd HA.out (by simp [laws_FnExactRunCircuit.j1])
         | succ kj52 =>
          have H := HA.out; clear HA
          simp only [laws_FnExactRunCircuit.j1] at H
          by_cases c72 : x80_52 = true
          ·subst c72
           have H1 : (some false) = some r := by rw [if_pos rfl] at H; exact H
           clear H; have H := H1; clear H1
           exact absurd ((Option.some.inj H).trans HT.out) (by decide)
          ·replace c72 := Bool.eq_false_iff.mpr c72
           subst c72
           have H1 : ((laws_markIntS.f kj52 t128 1).bind fun bt151 => ((laws_heldIntS.f kj52 bt151.2 1).bind fun t153 => (if t153 < 0 then (some false) else (if t153 = bt151.1 then ((laws_toCircuit.f kj52 a0_0 l0_1 l0_2).bind fun bt154 => ((laws_toIntS.f kj52 l1).bind fun t161 => ((impl_RunCircuit.f kj52 bt154.1 bt154.2.1 bt154.2.2 t161).bind fun bt164 => ((laws_eqIntS.f kj52 bt164.1 t113).bind fun t168 => (if t168 = true then (laws_FnExactRunCircuit.j2 kj52 bt151.2 bt151.1 (bt164.2 != t116)) else (laws_FnExactRunCircuit.j2 kj52 bt151.2 bt151.1 true)))))) else (some false))))) = some r := by rw [if_neg (show ¬ (false = true) by decide)] at H; exact H
           clear H; have H := H1; clear H1
           replace H := Option.bind_eq_some_iff.mp H
           obtain ⟨⟨t151, t152⟩, A730, H⟩ := H
           replace H : ((laws_heldIntS.f kj52 t152 1).bind fun t153 => (if t153 < 0 then (some false) else (if t153 = t151 then ((laws_toCircuit.f kj52 a0_0 l0_1 l0_2).bind fun bt154 => ((laws_toIntS.f kj52 l1).bind fun t161 => ((impl_RunCircuit.f kj52 bt154.1 bt154.2.1 bt154.2.2 t161).bind fun bt164 => ((laws_eqIntS.f kj52 bt164.1 t113).bind fun t168 => (if t168 = true then (laws_FnExactRunCircuit.j2 kj52 t152 t151 (bt164.2 != t116)) else (laws_FnExactRunCircuit.j2 kj52 t152 t151 true)))))) else (some false)))) = some r := H
           have A73 := am A730; clear A730
           replace H := Option.bind_eq_some_iff.mp H
           obtain ⟨t153, A740, H⟩ := H
           replace H : (if t153 < 0 then (some false) else (if t153 = t151 then ((laws_toCircuit.f kj52 a0_0 l0_1 l0_2).bind fun bt154 => ((laws_toIntS.f kj52 l1).bind fun t161 => ((impl_RunCircuit.f kj52 bt154.1 bt154.2.1 bt154.2.2 t161).bind fun bt164 => ((laws_eqIntS.f kj52 bt164.1 t113).bind fun t168 => (if t168 = true then (laws_FnExactRunCircuit.j2 kj52 t152 t151 (bt164.2 != t116)) else (laws_FnExactRunCircuit.j2 kj52 t152 t151 true)))))) else (some false))) = some r := H
           have A74 := am A740; clear A740
           by_cases c75 : t153 < 0
           ·rw [if_pos c75] at H
            have c75b0 : decide (t153 < 0) = true := decide_eq_true c75
            clear c75
            exact absurd ((Option.some.inj H).trans HT.out) (by decide)
           ·rw [if_neg c75] at H
            have c75b0 : decide (t153 < 0) = false := decide_eq_false c75
            clear c75
            by_cases c76 : t153 = t151
            ·rw [if_pos c76] at H
             have c76b0 : (t153 == t151) = true := beq_iff_eq.mpr c76
             have c76b1 : (t153 != t151) = false := bne_eq_false_iff_eq.mpr c76
             clear c76
             replace H := Option.bind_eq_some_iff.mp H
             obtain ⟨⟨t154, t155, t158⟩, A770, H⟩ := H
             replace H : ((laws_toIntS.f kj52 l1).bind fun t161 => ((impl_RunCircuit.f kj52 t154 t155 t158 t161).bind fun bt164 => ((laws_eqIntS.f kj52 bt164.1 t113).bind fun t168 => (if t168 = true then (laws_FnExactRunCircuit.j2 kj52 t152 t151 (bt164.2 != t116)) else (laws_FnExactRunCircuit.j2 kj52 t152 t151 true))))) = some r := H
             have A77 := am A770; clear A770
             replace H := Option.bind_eq_some_iff.mp H
             obtain ⟨t161, A780, H⟩ := H
             replace H : ((impl_RunCircuit.f kj52 t154 t155 t158 t161).bind fun bt164 => ((laws_eqIntS.f kj52 bt164.1 t113).bind fun t168 => (if t168 = true then (laws_FnExactRunCircuit.j2 kj52 t152 t151 (bt164.2 != t116)) else (laws_FnExactRunCircuit.j2 kj52 t152 t151 true)))) = some r := H
             have A78 := am A780; clear A780
             replace H := Option.bind_eq_some_iff.mp H
             obtain ⟨⟨t164, t167⟩, A790, H⟩ := H
             replace H : ((laws_eqIntS.f kj52 t164 t113).bind fun t168 => (if t168 = true then (laws_FnExactRunCircuit.j2 kj52 t152 t151 (t167 != t116)) else (laws_FnExactRunCircuit.j2 kj52 t152 t151 true))) = some r := H
             have A79 := am A790; clear A790; have HC80 := am H; clear H
             obtain ⟨Ao81, co81, eo81⟩ := Kd.R_slice HO_10.out
             subst eo81
             go_upto_region 31 with (first | ((with_reducible refine gate_callee (f := 34) rfl ?_); refine goesL_ (some 83) rfl rfl Try.func34 (by kernel_rfl) rfl #[.slice Ao81 t128.length co81, .int .i64 1] rfl bE ?_; (with_reducible refine (laws_markIntS.calls kj52 (fun k_ => some k_ = (.slice Ao81 t128.length co81 : Value).ownBlock) (.slice Ao81 t128.length co81) t128 1 t151 t152 w _ ?side1 ?side2 A73.out).mono ?_); (case side1 => repeat (first | (with_reducible first | exact HB.out | apply below_alloc | apply pw_below_drewN | apply below_drew1 | refine below_set ?_ GE101.out | refine below_set ?_ GE124.out) | exact HB.out)); (case side2 => exact Kd.R_tight rfl HO_10.out); rintro e w82 ⟨rfl, hy0, hb, hkp⟩; refine ⟨_, rfl, ?_⟩; have n0_ := am (Kd.R_mono (ok' := fun k_ => some k_ ≠ (.slice Ao81 t128.length co81 : Value).ownBlock ∧ some k_ ≠ (.slice Ao33 t147.length co33 : Value).ownBlock) (Kd.R_keptB (HO_6.out) hkp (fun k_ hk_ hs_ => (hk_.1) hs_)) (fun k_ hk_ => ⟨hk_.1.1, hk_.1.2⟩)); have n1_ := am (Kd.R_reok rfl hy0 (fun k_ e_ => HO_10.out.1 k_ e_)); have n2_ := am (Kd.R_mono (ok' := fun k_ => True) (Kd.R_keptB ((Kd.R_apart' HO_125001.out (Kd.R_typed HO_10.out) (by decide))) hkp (fun k_ hk_ hs_ => (hk_.2) hs_)) (fun k_ hk_ => trivial)); have n3_ := am (Kd.R_mono (ok' := fun k_ => some k_ ≠ (v114 : Value).ownBlock ∧ some k_ ≠ (.slice Ao81 t128.length co81 : Value).ownBlock) (Kd.R_keptB (HO_125002.out) hkp (fun k_ hk_ hs_ => (hk_.2) hs_)) (fun k_ hk_ => ⟨hk_.1.1, hk_.1.2⟩)); have n4_ := am (blk_kept (bA BK101.out) hkp (fun hs_ => (fun e_ => (Kd.R_ne HO_10.out BK101.out (by decide)) e_) hs_)); have n5_ := am (blk_kept (bA BK124.out) hkp (fun hs_ => (fun e_ => (Kd.R_ne HO_10.out BK124.out (by decide)) e_) hs_)); have n6_ := am (hb); clear HO_6; clear HO_10; clear HO_125001; clear HO_125002; clear BK101; clear BK124; clear HB; have HO_6 := n0_; have HO_10 := n1_; have HO_125001 := n2_; have HO_125002 := n3_; have BK101 := n4_; have BK124 := n5_; have HB := n6_; clear n0_ n1_ n2_ n3_ n4_ n5_ n6_; (try clear hb); (try clear hkp); (try clear hy0)) | ((with_reducible refine gate_callee (f := 35) rfl ?_); refine goesL_ (some 86) rfl rfl Try.func35 (by kernel_rfl) rfl #[.slice Ao81 t152.length co81, .int .i64 1] rfl (by (try simp only [List.map_toArray, List.map_cons, List.map_nil]); first | done | (rw [show t152.length = t128.length from (Kd.R_reads' HO_10.out).1.symm] <;> rfl) | rfl | (simp only [List.length_drop, List.length_take]; rfl)) ?_; (with_reducible refine (laws_heldIntS.calls kj52 _ _ t152 1 t153 _ ?side1 ?side2 A74.out).mono ?_); (case side1 => exact bD ((Kd.R_reads' HO_10.out).2.2)); (case side2 => rw [show t152.length = t128.length from (Kd.R_reads' HO_10.out).1.symm]; exact (Kd.R_reads' HO_10.out).2.1); rintro e w' ⟨rfl, ⟨nd, rfl⟩⟩; refine ⟨_, rfl, ?_⟩; have hnb83 := NB101_124.out; have hnc83 := NB124_101.out; have hcz84_0 : w82.cell? ⟨gb101, 0, none⟩ = some (.int .i64 a0_0) := (blk_cell BK101.out 0).trans rfl; have hcz84_1 : w82.cell? ⟨gb101, 1, none⟩ = some (.slice A0_1 l0_1.length c0_1) := (blk_cell BK101.out 1).trans rfl; have hcz84_2 : w82.cell? ⟨gb101, 2, none⟩ = some (.slice A0_2 l0_2.length c0_2) := (blk_cell BK101.out 2).trans rfl; have hfz84_0 := blk_frozen BK101.out 0; have hfz84_1 := blk_frozen BK101.out 1; have hfz84_2 := blk_frozen BK101.out 2) | ((with_reducible refine gate_callee (f := 19) rfl ?_); refine goesL_ (some 94) rfl rfl Try.func19 (by kernel_rfl) rfl #[.agg #[.int .i64 a0_0, .slice A0_1 l0_1.length c0_1, .slice A0_2 l0_2.length c0_2]] rfl bE ?_; (with_reducible refine (laws_toCircuit.calls kj52 a0_0 _ _ l0_1 _ _ l0_2 t154 t155 t158 _ ?side1 ?side2 ?side3 ?side4 A77.out).mono ?_); (case side1 => exact bD ((Kd.C_below HR0_1.out (bB HB.out)))); (case side2 => exact HC0_1.out); (case side3 => exact bD ((Kd.C_below HR0_2.out (bB HB.out)))); (case side4 => exact HC0_2.out); rintro e w85 ⟨v156, v159, rfl, ho0, ho1, hb⟩; refine ⟨_, rfl, ?_⟩; have n0_ := am (Kd.R_elder' (bC HO_6.out) (Kd.R_base ho1) hb); have n1_ := am (Kd.R_elder' (bC HO_10.out) (Kd.R_base ho1) hb); have n2_ := am (Kd.R_elder' (bC HO_125001.out) (Kd.R_base ho0) hb); have n3_ := am (Kd.R_elder' (bC HO_125002.out) (Kd.R_base ho1) hb); have n4_ := am (Kd.R_lower (Kd.R_new' ho0 (Kd.R_lt (bC HO_125001.out))) (below_size (bB HB.out))); have n5_ := am (Kd.R_lower (Kd.R_new' (Kd.R_new' (Kd.R_new' ho1 (Kd.R_lt (bC HO_6.out))) (Kd.R_lt (bC HO_10.out))) (Kd.R_lt (bC HO_125002.out))) (below_size (bB HB.out))); have n6_ := am (blk_below (bA BK101.out) hb); have n7_ := am (blk_below (bA BK124.out) hb); have n8_ := am (below_step (bB HB.out) hb); clear HO_6; clear HO_10; clear HO_125001; clear HO_125002; clear BK101; clear BK124; clear HB; have HO_6 := n0_; have HO_10 := n1_; have HO_125001 := n2_; have HO_125002 := n3_; have HO157 := n4_; have HO160 := n5_; have BK101 := n6_; have BK124 := n7_; have HB := n8_; clear n0_ n1_ n2_ n3_ n4_ n5_ n6_ n7_ n8_; (try clear hb); (try clear hb2); (try clear hk); (try clear hi); (try clear ho0); (try clear ho1)) | ((with_reducible refine gate_callee (f := 31) rfl ?_); refine goesL_ (some 96) rfl rfl Try.func31 (by kernel_rfl) rfl #[.slice A1 l1.length c1] rfl bE ?_; (with_reducible refine (laws_toIntS.calls kj52 _ _ l1 t161 _ ?side1 ?side2 A78.out).mono ?_); (case side1 => exact bD ((Kd.C_below HR1.out HB.out))); (case side2 => exact HC1.out); rintro e w86 ⟨v162, rfl, ho0, hb⟩; refine ⟨_, rfl, ?_⟩; have n0_ := am (Kd.R_elder' (bC HO_6.out) (Kd.R_base ho0) hb); have n1_ := am (Kd.R_elder' (bC HO_10.out) (Kd.R_base ho0) hb); have n2_ := am (Kd.R_below (bC HO_125001.out) hb); have n3_ := am (Kd.R_elder' (bC HO_125002.out) (Kd.R_base ho0) hb); have n4_ := am (Kd.R_below (bC HO157.out) hb); have n5_ := am (Kd.R_elder' (bC HO160.out) (Kd.R_base ho0) hb); have n6_ := am (Kd.R_lower (Kd.R_new' (Kd.R_new' (Kd.R_new' (Kd.R_new' ho0 (Kd.R_lt (bC HO_6.out))) (Kd.R_lt (bC HO_10.out))) (Kd.R_lt (bC HO_125002.out))) (Kd.R_lt (bC HO160.out))) (below_size (bB HB.out))); have n7_ := am (blk_below (bA BK101.out) hb); have n8_ := am (blk_below (bA BK124.out) hb); have n9_ := am (below_step (bB HB.out) hb); clear HO_6; clear HO_10; clear HO_125001; clear HO_125002; clear HO157; clear HO160; clear BK101; clear BK124; clear HB; have HO_6 := n0_; have HO_10 := n1_; have HO_125001 := n2_; have HO_125002 := n3_; have HO157 := n4_; have HO160 := n5_; have HO163 := n6_; have BK101 := n7_; have BK124 := n8_; have HB := n9_; clear n0_ n1_ n2_ n3_ n4_ n5_ n6_ n7_ n8_ n9_; (try clear hb); (try clear hb2); (try clear hk); (try clear hi); (try clear ho0); obtain ⟨Ao87, co87, eo87⟩ := Kd.R_slice HO157.out; subst eo87; obtain ⟨Ao88, co88, eo88⟩ := Kd.R_slice HO160.out; subst eo88; obtain ⟨Ao89, co89, eo89⟩ := Kd.R_slice HO163.out; subst eo89) | ((with_reducible refine gate_callee (f := 27) rfl ?_); refine goesL_ (some 97) rfl rfl Try.func27 (by kernel_rfl) rfl #[.agg #[.int .i64 t154, .slice Ao87 t155.length co87, .slice Ao88 t158.length co88], .slice Ao89 t161.length co89] rfl bE ?_; (with_reducible refine (impl_RunCircuit.calls kj52 t154 _ _ t155 _ _ t158 _ _ t161 t164 t167 _ ?side1 ?side2 ?side3 ?side4 ?side5 ?side6 A79.out).mono ?_); (case side1 => exact bD ((Kd.R_reads' HO157.out).2.2)); (case side2 => exact (Kd.R_reads' HO157.out).2.1); (case side3 => exact bD ((Kd.R_reads' HO160.out).2.2)); (case side4 => exact (Kd.R_reads' HO160.out).2.1); (case side5 => exact bD ((Kd.R_reads' HO163.out).2.2)); (case side6 => exact (Kd.R_reads' HO163.out).2.1); rintro e w90 ⟨v165, rfl, ho0, hb⟩; refine ⟨_, rfl, ?_⟩; have n0_ := am (Kd.R_elder' (bC HO_6.out) (Kd.R_base ho0) hb); have n1_ := am (Kd.R_elder' (bC HO_10.out) (Kd.R_base ho0) hb); have n2_ := am (Kd.R_below (bC HO_125001.out) hb); have n3_ := am (Kd.R_elder' (bC HO_125002.out) (Kd.R_base ho0) hb); have n4_ := am (Kd.R_below (bC HO157.out) hb); have n5_ := am (Kd.R_elder' (bC HO160.out) (Kd.R_base ho0) hb); have n6_ := am (Kd.R_elder' (bC HO163.out) (Kd.R_base ho0) hb); have n7_ := am (Kd.R_lower (Kd.R_new' (Kd.R_new' (Kd.R_new' (Kd.R_new' (Kd.R_new' ho0 (Kd.R_lt (bC HO_6.out))) (Kd.R_lt (bC HO_10.out))) (Kd.R_lt (bC HO_125002.out))) (Kd.R_lt (bC HO160.out))) (Kd.R_lt (bC HO163.out))) (below_size (bB HB.out))); have n8_ := am (blk_below (bA BK101.out) hb); have n9_ := am (blk_below (bA BK124.out) hb); have n10_ := am (below_step (bB HB.out) hb); clear HO_6; clear HO_10; clear HO_125001; clear HO_125002; clear HO157; clear HO160; clear HO163; clear BK101; clear BK124; clear HB; have HO_6 := n0_; have HO_10 := n1_; have HO_125001 := n2_; have HO_125002 := n3_; have HO157 := n4_; have HO160 := n5_; have HO163 := n6_; have HO166 := n7_; have BK101 := n8_; have BK124 := n9_; have HB := n10_; clear n0_ n1_ n2_ n3_ n4_ n5_ n6_ n7_ n8_ n9_ n10_; (try clear hb); (try clear hb2); (try clear hk); (try clear hi); (try clear ho0)))
             (try simp only [Act.put, qa8, qb8, qc8])
             go_cut [108] (fun v108 wc => ∃ (kq : Nat) (x108_79 : Bool), v108 = .bool x108_79 ∧ Aside0 (laws_FnExactRunCircuit.j2 kq t152 t151 x108_79 = some r) ∧ Aside0 (kq ≤ kj52) ∧ Aside0 (Kd.R (Kd.int .i64) 3 wc w.heap.size (fun k_ => some k_ ≠ ((.slice Ao33 t147.length co33) : Value).ownBlock) (.slice Ao81 t128.length co81) t152) ∧ Aside0 (Kd.R k46 46 wc w.heap.size (fun _ => True) (.slice Ao32 t146.length co32) t146) ∧ Aside0 (Kd.R (Kd.int .i64) 3 wc w.heap.size (fun k_ => some k_ ≠ ((.slice Ao81 t128.length co81) : Value).ownBlock) (.slice Ao33 t147.length co33) t147) ∧ Aside0 (wc.heap[gb101]? = some (.cells #[.int .i64 a0_0, (.slice A0_1 l0_1.length c0_1), (.slice A0_2 l0_2.length c0_2)] 30 (0, 0))) ∧ Aside0 (wc.heap[gb124]? = some (.cells #[.int .i64 t117, (.slice Ao32 t146.length co32), (.slice Ao33 t147.length co33)] 35 (0, 0))) ∧ Aside0 (Below w.heap.size w wc))
             case first =>
              have H := HC80.out; clear HC80
              replace H := Option.bind_eq_some_iff.mp H
              obtain ⟨t168, A910, H⟩ := H
              replace H : (if t168 = true then (laws_FnExactRunCircuit.j2 kj52 t152 t151 (t167 != t116)) else (laws_FnExactRunCircuit.j2 kj52 t152 t151 true)) = some r := H
              have A91 := am A910; clear A910
              by_cases c92 : t168 = true
              ·subst c92
               have H1 : (laws_FnExactRunCircuit.j2 kj52 t152 t151 (t167 != t116)) = some r := by rw [if_pos rfl] at H; exact H
               clear H; have H := H1; clear H1
               have H' := am H
               clear H
               obtain ⟨Ao93, co93, eo93⟩ := Kd.R_slice HO166.out
               subst eo93
               obtain ⟨Ao94, co94, eo94⟩ := Kd.R_slice HO_6.out
               subst eo94
               go_wp2_with (first | ((with_reducible refine gate_callee (f := 32) rfl ?_); refine goesL_ (some 102) rfl rfl Try.func32 (by kernel_rfl) rfl #[.slice Ao93 t164.length co93, .slice Ao94 t113.length co94] rfl bE ?_; (with_reducible refine (laws_eqIntS.calls kj52 _ _ t164 _ _ t113 true _ ?side1 ?side2 ?side3 ?side4 A91.out).mono ?_); (case side1 => exact bD ((Kd.R_reads' HO166.out).2.2)); (case side2 => exact (Kd.R_reads' HO166.out).2.1); (case side3 => exact bD ((Kd.R_reads' HO_6.out).2.2)); (case side4 => exact (Kd.R_reads' HO_6.out).2.1); rintro e w' ⟨rfl, ⟨nd, rfl⟩⟩; refine ⟨_, rfl, ?_⟩))
               go_meet
               case rel => exact ⟨_, ((t167 != t116)), (by first | rfl | (simp; done) | (simp [*]; done)), H', ⟨by have := HJ15.out; have := HJ52.out; first | omega | exact Nat.le_refl _⟩, ⟨by (try simp only [hl125001_52]); (try simp only [hl125002_52]); (with_reducible repeat (first | apply Kd.R_alloc | apply Kd.R_drewN | apply Kd.R_drew)); exact Kd.R_mono HO_10.out (fun _ hk => hk.1.1.1.2)⟩, ⟨by (try simp only [hl125001_52]); (try simp only [hl125002_52]); (with_reducible repeat (first | apply Kd.R_alloc | apply Kd.R_drewN | apply Kd.R_drew)); exact Kd.R_mono HO_125001.out (fun _ hk => trivial)⟩, ⟨by (try simp only [hl125001_52]); (try simp only [hl125002_52]); (with_reducible repeat (first | apply Kd.R_alloc | apply Kd.R_drewN | apply Kd.R_drew)); exact Kd.R_mono HO_125002.out (fun _ hk => hk.1.1.1.2)⟩, ⟨by (try simp only [hl125001_52]); (try simp only [hl125002_52]); (with_reducible repeat (first | refine blk_drewN ?_ _ | refine blk_drew ?_ | refine blk_alloc ?_ _)); exact BK101.out⟩, ⟨by (try simp only [hl125001_52]); (try simp only [hl125002_52]); (with_reducible repeat (first | refine blk_drewN ?_ _ | refine blk_drew ?_ | refine blk_alloc ?_ _)); exact BK124.out⟩, ⟨bB HB.out⟩⟩
              ·replace c92 := Bool.eq_false_iff.mpr c92
               subst c92
               have H1 : (laws_FnExactRunCircuit.j2 kj52 t152 t151 true) = some r := by rw [if_neg (show ¬ (false = true) by decide)] at H; exact H
               clear H; have H := H1; clear H1
               have H' := am H
               clear H
               obtain ⟨Ao95, co95, eo95⟩ := Kd.R_slice HO166.out
               subst eo95
               obtain ⟨Ao96, co96, eo96⟩ := Kd.R_slice HO_6.out
               subst eo96
               go_wp2_with (first | ((with_reducible refine gate_callee (f := 32) rfl ?_); refine goesL_ (some 102) rfl rfl Try.func32 (by kernel_rfl) rfl #[.slice Ao95 t164.length co95, .slice Ao96 t113.length co96] rfl bE ?_; (with_reducible refine (laws_eqIntS.calls kj52 _ _ t164 _ _ t113 false _ ?side1 ?side2 ?side3 ?side4 A91.out).mono ?_); (case side1 => exact bD ((Kd.R_reads' HO166.out).2.2)); (case side2 => exact (Kd.R_reads' HO166.out).2.1); (case side3 => exact bD ((Kd.R_reads' HO_6.out).2.2)); (case side4 => exact (Kd.R_reads' HO_6.out).2.1); rintro e w' ⟨rfl, ⟨nd, rfl⟩⟩; refine ⟨_, rfl, ?_⟩))
               go_meet
               case rel => exact ⟨_, (true), (by first | rfl | (simp; done) | (simp [*]; done)), H', ⟨by have := HJ15.out; have := HJ52.out; first | omega | exact Nat.le_refl _⟩, ⟨by (try simp only [hl125001_52]); (try simp only [hl125002_52]); (with_reducible repeat (first | apply Kd.R_alloc | apply Kd.R_drewN | apply Kd.R_drew)); exact Kd.R_mono HO_10.out (fun _ hk => hk.1.1.1.2)⟩, ⟨by (try simp only [hl125001_52]); (try simp only [hl125002_52]); (with_reducible repeat (first | apply Kd.R_alloc | apply Kd.R_drewN | apply Kd.R_drew)); exact Kd.R_mono HO_125001.out (fun _ hk => trivial)⟩, ⟨by (try simp only [hl125001_52]); (try simp only [hl125002_52]); (with_reducible repeat (first | apply Kd.R_alloc | apply Kd.R_drewN | apply Kd.R_drew)); exact Kd.R_mono HO_125002.out (fun _ hk => hk.1.1.1.2)⟩, ⟨by (try simp only [hl125001_52]); (try simp only [hl125002_52]); (with_reducible repeat (first | refine blk_drewN ?_ _ | refine blk_drew ?_ | refine blk_alloc ?_ _)); exact BK101.out⟩, ⟨by (try simp only [hl125001_52]); (try simp only [hl125002_52]); (with_reducible repeat (first | refine blk_drewN ?_ _ | refine blk_drew ?_ | refine blk_alloc ?_ _)); exact BK124.out⟩, ⟨bB HB.out⟩⟩
             case rest =>
              clear HC80
              try clear c1
              try clear c2
              try clear p2
              try clear c3
              try clear c3b0
              try clear c3b1
              try clear c4
              try clear c5
              try clear c6
              try clear c6b0
              try clear c7
              try clear c8
              try clear c9
              try clear c17
              try clear c19
              try clear c21
              try clear c27
              try clear c30
              try clear c31
              try clear c32
              try clear c33
              try clear c34
              try clear c35
              try clear c36
              try clear c39
              try clear c44
              try clear c47
              try clear c50
              try clear c61
              try clear c65
              try clear c65b0
              try clear c67
              try clear c72
              try clear c75
              try clear c75b0
              try clear c76
              try clear c76b0
              try clear c76b1
              try clear c83
              try clear c92
              try clear hcz18_0
              try clear hcz18_1
              try clear hcz18_2
              try clear hcz20_0
              try clear hcz20_1
              try clear hcz20_2
              try clear hcz27_0
              try clear hcz27_1
              try clear hcz27_2
              try clear hcz31_0
              try clear hcz31_1
              try clear hcz31_2
              try clear hcz35_0
              try clear hcz35_1
              try clear hcz35_2
              try clear hcz62_0
              try clear hcz62_1
              try clear hcz62_2
              try clear hcz84_0
              try clear hcz84_1
              try clear hcz84_2
              try clear hcz8_0
              try clear hcz8_1
              try clear hcz8_2
              try clear hfz18_0
              try clear hfz18_1
              try clear hfz18_2
              try clear hfz20_0
              try clear hfz20_1
              try clear hfz20_2
              try clear hfz27_0
              try clear hfz27_1
              try clear hfz27_2
              try clear hfz31_0
              try clear hfz31_1
              try clear hfz31_2
              try clear hfz35_0
              try clear hfz35_1
              try clear hfz35_2
              try clear hfz62_0
              try clear hfz62_1
              try clear hfz62_2
              try clear hfz84_0
              try clear hfz84_1
              try clear hfz84_2
              try clear hfz8_0
              try clear hfz8_1
              try clear hfz8_2
              try clear p2
              obtain ⟨kq, x108_79, rfl, HA, HJ79, HO_10, HO_125001, HO_125002, BK101, BK124, HB⟩ := hcut
              have hl10_79 := (Kd.R_reads' HO_10.out).1
              rw [hl10_79] at HO_10
              (try simp only [hl10_79])
              (try simp only [hl10_79] at BK101)
              (try simp only [hl10_79] at BK124)
              (try simp only [hl10_79] at HO_125001)
              (try simp only [hl10_79] at HO_125002)
              cases kq with
              | zero => exact absurd HA.out (by simp [laws_FnExactRunCircuit.j2])
              | succ kj79 =>
               have H := HA.out; clear HA
               simp only [laws_FnExactRunCircuit.j2] at H
               by_cases c97 : x108_79 = true
               ·subst c97
                have H1 : (some false) = some r := by rw [if_pos rfl] at H; exact H
                clear H; have H := H1; clear H1
                exact absurd ((Option.some.inj H).trans HT.out) (by decide)
               ·replace c97 := Bool.eq_false_iff.mpr c97
                subst c97
                have H1 : ((laws_heldIntS.f kj79 t152 1).bind fun t169 => (if t169 < 0 then (some false) else (if t169 = t151 then (some true) else (some false)))) = some r := by rw [if_neg (show ¬ (false = true) by decide)] at H; exact H
                clear H; have H := H1; clear H1
                replace H := Option.bind_eq_some_iff.mp H
                obtain ⟨t169, A980, H⟩ := H
                replace H : (if t169 < 0 then (some false) else (if t169 = t151 then (some true) else (some false))) = some r := H
                have A98 := am A980; clear A980
                by_cases c99 : t169 < 0
                ·rw [if_pos c99] at H
                 have c99b0 : decide (t169 < 0) = true := decide_eq_true c99
                 clear c99
                 exact absurd ((Option.some.inj H).trans HT.out) (by decide)
                ·rw [if_neg c99] at H
                 have c99b0 : decide (t169 < 0) = false := decide_eq_false c99
                 clear c99
                 by_cases c100 : t169 = t151
                 ·rw [if_pos c100] at H
                  have c100b0 : (t169 == t151) = true := beq_iff_eq.mpr c100
                  have c100b1 : (t169 != t151) = false := bne_eq_false_iff_eq.mpr c100
                  clear c100
                  obtain rfl := Option.some.inj H
                  go_wp2_with (first | ((with_reducible refine gate_callee (f := 35) rfl ?_); refine goesL_ (some 111) rfl rfl Try.func35 (by kernel_rfl) rfl #[.slice Ao81 t152.length co81, .int .i64 1] rfl bE ?_; (with_reducible refine (laws_heldIntS.calls kj79 _ _ t152 1 t169 _ ?side1 ?side2 A98.out).mono ?_); (case side1 => exact bD ((Kd.R_reads' HO_10.out).2.2)); (case side2 => exact (Kd.R_reads' HO_10.out).2.1); rintro e w' ⟨rfl, ⟨nd, rfl⟩⟩; refine ⟨_, rfl, ?_⟩))
                  go_ret
                  exact ⟨by first | rfl | (simp [errW_none, errW_some] <;> rfl) | (simp [*, errW_none, errW_some] <;> rfl), bB HB.out⟩
                 ·rw [if_neg c100] at H
                  have c100b0 : (t169 == t151) = false := beq_eq_false_iff_ne.mpr c100
                  have c100b1 : (t169 != t151) = true := bne_iff_ne.mpr c100
                  exact absurd ((Option.some.inj H).trans HT.out) (by decide)
            ·rw [if_neg c76] at H
             have c76b0 : (t153 == t151) = false := beq_eq_false_iff_ne.mpr c76
             have c76b1 : (t153 != t151) = true := bne_iff_ne.mpr c76
             exact absurd ((Option.some.inj H).trans HT.out) (by decide)
       ·replace c50 := Bool.eq_false_iff.mpr c50
        subst c50
        have H1 : (some false) = some r := by rw [if_neg (show ¬ (false = true) by decide)] at H; exact H
        clear H; have H := H1; clear H1
        exact absurd ((Option.some.inj H).trans HT.out) (by decide)
      ·replace c47 := Bool.eq_false_iff.mpr c47
       subst c47
       have H1 : (some false) = some r := by rw [if_neg (show ¬ (false = true) by decide)] at H; exact H
       clear H; have H := H1; clear H1
       exact absurd ((Option.some.inj H).trans HT.out) (by decide)

/-- THE ONE PURE STATEMENT of laws_FnExactRunCircuit: yours. -/
def laws_FnExactRunCircuit.Pure : Prop := ∀ (a0_0 : Int) (l0_1 : List (S87)) (l0_2 : List Int) (l1 : List Int), (Lit.int .i64 a0_0).wf = true → (l0_1.length ≤ maxLen ∧ ∀ l0_1_, l0_1_ ∈ l0_1 → (((Lit.int .i64 l0_1_.f0.f0).wf = true ∧ (Lit.int .i64 l0_1_.f0.f1).wf = true ∧ (Lit.int .i64 l0_1_.f0.f2).wf = true ∧ (Lit.int .i64 l0_1_.f0.f3).wf = true ∧ (Lit.int .i64 l0_1_.f0.f4).wf = true ∧ (Lit.int .i64 l0_1_.f0.f5).wf = true ∧ (Lit.int .i64 l0_1_.f0.f6).wf = true ∧ (Lit.int .i64 l0_1_.f0.f7).wf = true ∧ (Lit.int .i64 l0_1_.f0.f8).wf = true) ∧ (Lit.int .i64 l0_1_.f1).wf = true ∧ (Lit.int .i64 l0_1_.f2).wf = true)) → (l0_2.length ≤ maxLen ∧ ∀ l0_2_, l0_2_ ∈ l0_2 → (Lit.int .i64 l0_2_).wf = true) → (l1.length ≤ maxLen ∧ ∀ l1_, l1_ ∈ l1 → (Lit.int .i64 l1_).wf = true) → ∃ k, laws_FnExactRunCircuit.f k a0_0 l0_1 l0_2 l1 = some true
theorem laws_FnExactRunCircuit.walk (P : laws_FnExactRunCircuit.Pure) (a0_0 : Int) (A0_1 : Option Addr) (c0_1 : Nat) (l0_1 : List (S87)) (A0_2 : Option Addr) (c0_2 : Nat) (l0_2 : List Int) (A1 : Option Addr) (c1 : Nat) (l1 : List Int) (w : World) (hg0_0 : (Lit.int .i64 a0_0).wf = true) (hr0_1 : Kd.C k87 w A0_1 l0_1.length l0_1) (hc0_1 : l0_1.length ≤ c0_1) (hg0_1 : (l0_1.length ≤ maxLen ∧ ∀ l0_1_, l0_1_ ∈ l0_1 → (((Lit.int .i64 l0_1_.f0.f0).wf = true ∧ (Lit.int .i64 l0_1_.f0.f1).wf = true ∧ (Lit.int .i64 l0_1_.f0.f2).wf = true ∧ (Lit.int .i64 l0_1_.f0.f3).wf = true ∧ (Lit.int .i64 l0_1_.f0.f4).wf = true ∧ (Lit.int .i64 l0_1_.f0.f5).wf = true ∧ (Lit.int .i64 l0_1_.f0.f6).wf = true ∧ (Lit.int .i64 l0_1_.f0.f7).wf = true ∧ (Lit.int .i64 l0_1_.f0.f8).wf = true) ∧ (Lit.int .i64 l0_1_.f1).wf = true ∧ (Lit.int .i64 l0_1_.f2).wf = true))) (hr0_2 : Kd.C (Kd.int .i64) w A0_2 l0_2.length l0_2) (hc0_2 : l0_2.length ≤ c0_2) (hg0_2 : (l0_2.length ≤ maxLen ∧ ∀ l0_2_, l0_2_ ∈ l0_2 → (Lit.int .i64 l0_2_).wf = true)) (hr1 : Kd.C (Kd.int .i64) w A1 l1.length l1) (hc1 : l1.length ≤ c1) (hg1 : (l1.length ≤ maxLen ∧ ∀ l1_, l1_ ∈ l1 → (Lit.int .i64 l1_).wf = true)) :
  Calls Try.prog 8 #[.agg #[.int .i64 a0_0, .slice A0_1 l0_1.length c0_1, .slice A0_2 l0_2.length c0_2], .slice A1 l1.length c1] w fun e w' => e = .returned (.bool true) ∧ Below w.heap.size w w' := by
 obtain ⟨k, h⟩ := P a0_0 l0_1 l0_2 l1 hg0_0 hg0_1 hg0_2 hg1
 refine (laws_FnExactRunCircuit.calls k a0_0 _ _ l0_1 _ _ l0_2 _ _ l1 true w hr0_1 hc0_1 hr0_2 hc0_2 hr1 hc1 h rfl).mono ?_
 rintro e w' ⟨rfl, hd⟩
 exact ⟨rfl, hd⟩

end Go.Proofs.Ytaopbkbjfmfcdaa.P
