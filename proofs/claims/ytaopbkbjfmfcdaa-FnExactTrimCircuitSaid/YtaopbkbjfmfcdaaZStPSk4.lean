/- What functions of the program come to, each with the proof that it does, laid by a program of this session out of the translation; no condition is set on any claim. -/
import Derived.Test.YtaopbkbjfmfcdaaZStPSk0
import Derived.Test.YtaopbkbjfmfcdaaZStPSk3
namespace Go.Proofs.Ytaopbkbjfmfcdaa.P
open Go.RowKit Go.Proofs.YtaopbkbjfmfcdaaW.PrintWords Go.Proofs.YtaopbkbjfmfcdaaW.PrintLast Go.Proofs.YtaopbkbjfmfcdaaW.PrintMore
attribute [local go_sem] max2_int min2_int max_two min_two max_three min_three max_four min_four   -- for this text's walks alone
set_option linter.unusedVariables false
set_option linter.unusedSimpArgs false

theorem qa18 {α : Type} (l : List α) (i : Nat) (a : α) : l.toArray.setIfInBounds i a = (l.set i a).toArray := List.setIfInBounds_toArray ..
theorem qb18 {α : Type} (x a : α) (l : List α) : (x :: l).set 0 a = a :: l := rfl
theorem qc18 {α : Type} (x a : α) (l : List α) (n : Nat) : (x :: l).set (n + 1) a = x :: l.set n a := rfl
/-! ### spec_IsCircuit: function 18 -/
mutual
def spec_IsCircuit.j0 : Nat → Bool → Int → List (S46) → List Int → Option (Bool)
 | 0, _, _, _, _ => none
 | k + 1, x23, x102000, x102001, x102002 => if x23 = true then (some false) else (spec_IsCircuit.l0 k (wrap64 (3 + x102000)) x102001 (x102001.length : Int) 0 x102000 x102001 x102002)
def spec_IsCircuit.l0 : Nat → Int → List (S46) → Int → Int → Int → List (S46) → List Int → Option (Bool)
 | 0, _, _, _, _, _, _, _ => none
 | k + 1, x3, x28, x29, x30, x102000, x102001, x102002 => if x30 < x29 then (if 0 ≤ x30 then (if x30 < (x28.length : Int) then ((spec_IsTable.f ((rd_T46 x28 x30).f0.f0) ((rd_T46 x28 x30).f0.f1) ((rd_T46 x28 x30).f0.f2) ((rd_T46 x28 x30).f0.f3) ((rd_T46 x28 x30).f0.f4) ((rd_T46 x28 x30).f0.f5) ((rd_T46 x28 x30).f0.f6) ((rd_T46 x28 x30).f0.f7) ((rd_T46 x28 x30).f0.f8)).bind fun t105 => (if t105 = true then ((spec_l1In.f ((rd_T46 x28 x30).f1) 0 (wrap64 ((wrap64 (x3 + x30)) - 1))).bind fun t106 => (if t106 = true then ((spec_l1In.f ((rd_T46 x28 x30).f2) 0 (wrap64 ((wrap64 (x3 + x30)) - 1))).bind fun t107 => (if t107 = true then (spec_IsCircuit.l0 k x3 x28 x29 (wrap64 (x30 + 1)) x102000 x102001 x102002) else (some false))) else (some false))) else (some false))) else (none)) else (none)) else (spec_IsCircuit.l1 k x3 x102002 (x102002.length : Int) 0 x102000 x102001 x102002)
def spec_IsCircuit.l1 : Nat → Int → List Int → Int → Int → Int → List (S46) → List Int → Option (Bool)
 | 0, _, _, _, _, _, _, _ => none
 | k + 1, x3, x61, x62, x63, x102000, x102001, x102002 => if x63 < x62 then (if 0 ≤ x63 then (if x63 < (x61.length : Int) then ((spec_l1In.f (rd x61 x63) 0 (wrap64 ((wrap64 (x3 + (x102001.length : Int))) - 1))).bind fun t109 => (if t109 = true then (spec_IsCircuit.l1 k x3 x61 x62 (wrap64 (x63 + 1)) x102000 x102001 x102002) else (some false))) else (none)) else (none)) else (some true)
end
def spec_IsCircuit.f (k : Nat) (a0_0 : Int) (l0_1 : List (S46)) (l0_2 : List Int) : Option (Bool) := (spec_l1In.f a0_0 0 8).bind fun t102 => (if t102 = true then (if (l0_1.length : Int) > 60 then (spec_IsCircuit.j0 k true a0_0 l0_1 l0_2) else (spec_IsCircuit.j0 k (decide ((l0_2.length : Int) > 60)) a0_0 l0_1 l0_2)) else (spec_IsCircuit.j0 k true a0_0 l0_1 l0_2))
set_option maxHeartbeats 8000000 in
set_option maxRecDepth 100000 in
theorem spec_IsCircuit.calls (k : Nat) (a0_0 : Int) (A0_1 : Option Addr) (c0_1 : Nat) (l0_1 : List (S46)) (A0_2 : Option Addr) (c0_2 : Nat) (l0_2 : List Int) (r : Bool) (w : World) (hr0_1 : Kd.C k46 w A0_1 l0_1.length l0_1) (hc0_1 : l0_1.length ≤ c0_1) (hr0_2 : Kd.C (Kd.int .i64) w A0_2 l0_2.length l0_2) (hc0_2 : l0_2.length ≤ c0_2) (h : spec_IsCircuit.f k a0_0 l0_1 l0_2 = some r) :
  Calls Try.prog 18 #[.agg #[.int .i64 a0_0, .slice A0_1 l0_1.length c0_1, .slice A0_2 l0_2.length c0_2]] w fun e w' => e = .returned (.bool r) ∧ Below w.heap.size w w' := by
 have hu35 := Try.underlying35; have hu46 := Try.underlying46; have hu23 := Try.underlying23; have HR0_1 := am hr0_1; have HC0_1 := am hc0_1; clear hr0_1 hc0_1; have HR0_2 := am hr0_2; have HC0_2 := am hc0_2; clear hr0_2 hc0_2; have HB := am (Below.refl w.heap.size w)
 have H : ((spec_l1In.f a0_0 0 8).bind fun t102 => (if t102 = true then (if (l0_1.length : Int) > 60 then (spec_IsCircuit.j0 k true a0_0 l0_1 l0_2) else (spec_IsCircuit.j0 k (decide ((l0_2.length : Int) > 60)) a0_0 l0_1 l0_2)) else (spec_IsCircuit.j0 k true a0_0 l0_1 l0_2))) = some r := h
 clear h; have HC2 := am H; clear H
 go_enter Try.func18, Try.ntmps18
 go_upto_region 1 with (first | ((with_reducible refine gate_dst (N := 1) rfl ?_); (try (refine gate_guard (by rfl) ?_; dsimp only)); refine box_event ?hg (N := 1) ?hd (cs := #[.int .i64 a0_0, .slice A0_1 l0_1.length c0_1, .slice A0_2 l0_2.length c0_2]) (t := 35) ?hr ?_; (case hd => rfl); (case hg => rfl); (case hr => first | (go_simp; done) | (go_simp; rfl)); intro gb101 hg w3 hbox hb; have n0_ := am (below_step (bB HB.out) hb); have n1_ := am (hbox); have n2_ := am ((by rw [hg]; exact (below_size (bB HB.out)) : w.heap.size ≤ gb101)); have n3_ := am ((by rw [hg]; exact (below_size (bB HB.out)) : w.heap.size ≤ gb101)); clear HB; have HB := n0_; have BK101 := n1_; have GW101 := n2_; have GE101 := n3_; clear n0_ n1_ n2_ n3_; clear hb hbox hg))
 (try simp only [Act.put, qa18, qb18, qc18])
 go_cut [23] (fun v23 wc => ∃ (kq : Nat) (x23_1 : Bool), v23 = .bool x23_1 ∧ Aside0 (spec_IsCircuit.j0 kq x23_1 a0_0 l0_1 l0_2 = some r) ∧ Aside0 (kq ≤ k) ∧ Aside0 (wc.heap[gb101]? = some (.cells #[.int .i64 a0_0, (.slice A0_1 l0_1.length c0_1), (.slice A0_2 l0_2.length c0_2)] 35 (0, 0))) ∧ Aside0 (Below w.heap.size w wc))
 case first =>
  have H := HC2.out; clear HC2
  replace H := Option.bind_eq_some_iff.mp H
  obtain ⟨t102, A40, H⟩ := H
  replace H : (if t102 = true then (if (l0_1.length : Int) > 60 then (spec_IsCircuit.j0 k true a0_0 l0_1 l0_2) else (spec_IsCircuit.j0 k (decide ((l0_2.length : Int) > 60)) a0_0 l0_1 l0_2)) else (spec_IsCircuit.j0 k true a0_0 l0_1 l0_2)) = some r := H
  have A4 := am A40; clear A40
  by_cases c5 : t102 = true
  ·subst c5
   have H1 : (if (l0_1.length : Int) > 60 then (spec_IsCircuit.j0 k true a0_0 l0_1 l0_2) else (spec_IsCircuit.j0 k (decide ((l0_2.length : Int) > 60)) a0_0 l0_1 l0_2)) = some r := by rw [if_pos rfl] at H; exact H
   clear H; have H := H1; clear H1
   by_cases c6 : (l0_1.length : Int) > 60
   ·rw [if_pos c6] at H
    have c6b0 : decide (60 < (l0_1.length : Int)) = true := decide_eq_true c6
    have c6b1 : decide (60 < l0_1.length) = true := decide_eq_true (by omega)
    clear c6
    (first | rw [c6b0] | (simp only [i64_w, i32_w]; rw [c6b0]) | skip)
    have H' := am H
    clear H
    have hcz7_0 : w3.cell? ⟨gb101, 0, none⟩ = some (.int .i64 a0_0) := (blk_cell BK101.out 0).trans rfl
    have hcz7_1 : w3.cell? ⟨gb101, 1, none⟩ = some (.slice A0_1 l0_1.length c0_1) := (blk_cell BK101.out 1).trans rfl
    have hcz7_2 : w3.cell? ⟨gb101, 2, none⟩ = some (.slice A0_2 l0_2.length c0_2) := (blk_cell BK101.out 2).trans rfl
    have hfz7_0 := blk_frozen BK101.out 0; have hfz7_1 := blk_frozen BK101.out 1; have hfz7_2 := blk_frozen BK101.out 2
    go_wp2_with (first | ((with_reducible refine gate_callee (f := 55) rfl ?_); refine goesL_ (some 10) rfl rfl Try.func55 (by kernel_rfl) rfl #[.int .i64 a0_0, .int .i64 0, .int .i64 8] rfl bE ?_; (with_reducible refine (spec_l1In.calls a0_0 0 8 true _ A4.out).mono ?_); rintro e w' ⟨rfl, ⟨nd, rfl⟩⟩; refine ⟨_, rfl, ?_⟩))
    go_meet
    case rel => exact ⟨_, (true), (by first | rfl | (simp; done) | (simp [*]; done)), H', ⟨by first | omega | exact Nat.le_refl _⟩, ⟨bA BK101.out⟩, ⟨bB HB.out⟩⟩
   ·rw [if_neg c6] at H
    have c6b0 : decide (60 < (l0_1.length : Int)) = false := decide_eq_false c6
    have c6b1 : decide (60 < l0_1.length) = false := decide_eq_false (by omega)
    clear c6
    (first | rw [c6b0] | (simp only [i64_w, i32_w]; rw [c6b0]) | skip)
    have H' := am H
    clear H
    have hcz8_0 : w3.cell? ⟨gb101, 0, none⟩ = some (.int .i64 a0_0) := (blk_cell BK101.out 0).trans rfl
    have hcz8_1 : w3.cell? ⟨gb101, 1, none⟩ = some (.slice A0_1 l0_1.length c0_1) := (blk_cell BK101.out 1).trans rfl
    have hcz8_2 : w3.cell? ⟨gb101, 2, none⟩ = some (.slice A0_2 l0_2.length c0_2) := (blk_cell BK101.out 2).trans rfl
    have hfz8_0 := blk_frozen BK101.out 0; have hfz8_1 := blk_frozen BK101.out 1; have hfz8_2 := blk_frozen BK101.out 2
    go_wp2_with (first | ((with_reducible refine gate_callee (f := 55) rfl ?_); refine goesL_ (some 10) rfl rfl Try.func55 (by kernel_rfl) rfl #[.int .i64 a0_0, .int .i64 0, .int .i64 8] rfl bE ?_; (with_reducible refine (spec_l1In.calls a0_0 0 8 true _ A4.out).mono ?_); rintro e w' ⟨rfl, ⟨nd, rfl⟩⟩; refine ⟨_, rfl, ?_⟩))
    go_meet
    case rel => exact ⟨_, (decide ((l0_2.length : Int) > 60)), (by first | rfl | (simp; done) | (simp [*]; done)), H', ⟨by first | omega | exact Nat.le_refl _⟩, ⟨bA BK101.out⟩, ⟨bB HB.out⟩⟩
  ·replace c5 := Bool.eq_false_iff.mpr c5
   subst c5
   have H1 : (spec_IsCircuit.j0 k true a0_0 l0_1 l0_2) = some r := by rw [if_neg (show ¬ (false = true) by decide)] at H; exact H
   clear H; have H := H1; clear H1
   have H' := am H
   clear H
   have hcz9_0 : w3.cell? ⟨gb101, 0, none⟩ = some (.int .i64 a0_0) := (blk_cell BK101.out 0).trans rfl
   have hcz9_1 : w3.cell? ⟨gb101, 1, none⟩ = some (.slice A0_1 l0_1.length c0_1) := (blk_cell BK101.out 1).trans rfl
   have hcz9_2 : w3.cell? ⟨gb101, 2, none⟩ = some (.slice A0_2 l0_2.length c0_2) := (blk_cell BK101.out 2).trans rfl
   have hfz9_0 := blk_frozen BK101.out 0; have hfz9_1 := blk_frozen BK101.out 1; have hfz9_2 := blk_frozen BK101.out 2
   go_wp2_with (first | ((with_reducible refine gate_callee (f := 55) rfl ?_); refine goesL_ (some 10) rfl rfl Try.func55 (by kernel_rfl) rfl #[.int .i64 a0_0, .int .i64 0, .int .i64 8] rfl bE ?_; (with_reducible refine (spec_l1In.calls a0_0 0 8 false _ A4.out).mono ?_); rintro e w' ⟨rfl, ⟨nd, rfl⟩⟩; refine ⟨_, rfl, ?_⟩))
   go_meet
   case rel => exact ⟨_, (true), (by first | rfl | (simp; done) | (simp [*]; done)), H', ⟨by first | omega | exact Nat.le_refl _⟩, ⟨bA BK101.out⟩, ⟨bB HB.out⟩⟩
 case rest =>
  clear HC2
  try clear c1
  try clear p2
  try clear c5
  try clear c6
  try clear c6b0
  try clear c6b1
  try clear hcz7_0
  try clear hcz7_1
  try clear hcz7_2
  try clear hcz8_0
  try clear hcz8_1
  try clear hcz8_2
  try clear hcz9_0
  try clear hcz9_1
  try clear hcz9_2
  try clear hfz7_0
  try clear hfz7_1
  try clear hfz7_2
  try clear hfz8_0
  try clear hfz8_1
  try clear hfz8_2
  try clear hfz9_0
  try clear hfz9_1
  try clear hfz9_2
  obtain ⟨kq, x23_1, rfl, HA, HJ1, BK101, HB⟩ := hcut
  cases kq with
  | zero => exact absurd HA.out (by simp [spec_IsCircuit.j0])
  | succ kj1 =>
   have H := HA.out; clear HA
   simp only [spec_IsCircuit.j0] at H
   by_cases c10 : x23_1 = true
   ·subst c10
    have H1 : (some false) = some r := by rw [if_pos rfl] at H; exact H
    clear H; have H := H1; clear H1
    obtain rfl := Option.some.inj H
    go_wp2
    go_ret
    exact ⟨by first | rfl | (simp [errW_none, errW_some] <;> rfl) | (simp [*, errW_none, errW_some] <;> rfl), bB HB.out⟩
   ·replace c10 := Bool.eq_false_iff.mpr c10
    subst c10
    have H1 : (spec_IsCircuit.l0 kj1 (wrap64 (3 + a0_0)) l0_1 (l0_1.length : Int) 0 a0_0 l0_1 l0_2) = some r := by rw [if_neg (show ¬ (false = true) by decide)] at H; exact H
    clear H; have H := H1; clear H1
    have H' := am H
    clear H
    have hcz11_0 : wc.cell? ⟨gb101, 0, none⟩ = some (.int .i64 a0_0) := (blk_cell BK101.out 0).trans rfl
    have hcz11_1 : wc.cell? ⟨gb101, 1, none⟩ = some (.slice A0_1 l0_1.length c0_1) := (blk_cell BK101.out 1).trans rfl
    have hcz11_2 : wc.cell? ⟨gb101, 2, none⟩ = some (.slice A0_2 l0_2.length c0_2) := (blk_cell BK101.out 2).trans rfl
    have hfz11_0 := blk_frozen BK101.out 0; have hfz11_1 := blk_frozen BK101.out 1; have hfz11_2 := blk_frozen BK101.out 2
    go_wp2
    go_loopg [30] kj1 (fun kq v30 w' => ∃ (x30_2 : Int), v30 = .int .i64 x30_2 ∧ Aside0 (spec_IsCircuit.l0 kq (wrap64 (3 + a0_0)) l0_1 (l0_1.length : Int) x30_2 a0_0 l0_1 l0_2 = some r) ∧ Aside0 (kq ≤ kj1) ∧ Aside0 (w'.heap[gb101]? = some (.cells #[.int .i64 a0_0, (.slice A0_1 l0_1.length c0_1), (.slice A0_2 l0_2.length c0_2)] 35 (0, 0))) ∧ Aside0 (Below w.heap.size w w'))
    case atStart => exact ⟨(0), (by first | rfl | (simp; done) | (simp [*]; done)), H', ⟨Nat.le_refl _⟩, ⟨bA BK101.out⟩, ⟨bB HB.out⟩⟩
    case round =>
     clear H'
     try clear c1
     try clear p2
     try clear c5
     try clear c6
     try clear c6b0
     try clear c6b1
     try clear p6
     try clear c10
     try clear hcz11_0
     try clear hcz11_1
     try clear hcz11_2
     try clear hcz7_0
     try clear hcz7_1
     try clear hcz7_2
     try clear hcz8_0
     try clear hcz8_1
     try clear hcz8_2
     try clear hcz9_0
     try clear hcz9_1
     try clear hcz9_2
     try clear hfz11_0
     try clear hfz11_1
     try clear hfz11_2
     try clear hfz7_0
     try clear hfz7_1
     try clear hfz7_2
     try clear hfz8_0
     try clear hfz8_1
     try clear hfz8_2
     try clear hfz9_0
     try clear hfz9_1
     try clear hfz9_2
     try clear p2
     obtain ⟨x30_2, rfl, HA, HK2, BK101, HB⟩ := hrel
     cases gk with
     | zero => exact absurd HA.out (by simp [spec_IsCircuit.l0])
     | succ k2 =>
      have H := HA.out; clear HA
      simp only [spec_IsCircuit.l0] at H
      by_cases c12 : x30_2 < (l0_1.length : Int)
      ·rw [if_pos c12] at H
       have c12b0 : decide (x30_2 < (l0_1.length : Int)) = true := decide_eq_true c12
       clear c12
       by_cases c13 : 0 ≤ x30_2
       ·rw [if_pos c13] at H
        have c13b0 : decide (0 ≤ x30_2) = true := decide_eq_true c13
        clear c13
        by_cases c14 : x30_2 < (l0_1.length : Int)
        ·rw [if_pos c14] at H
         have c14b0 : decide (x30_2 < (l0_1.length : Int)) = true := decide_eq_true c14
         clear c14
         replace H := Option.bind_eq_some_iff.mp H
         obtain ⟨t105, A150, H⟩ := H
         replace H : (if t105 = true then ((spec_l1In.f ((rd_T46 l0_1 x30_2).f1) 0 (wrap64 ((wrap64 ((wrap64 (3 + a0_0)) + x30_2)) - 1))).bind fun t106 => (if t106 = true then ((spec_l1In.f ((rd_T46 l0_1 x30_2).f2) 0 (wrap64 ((wrap64 ((wrap64 (3 + a0_0)) + x30_2)) - 1))).bind fun t107 => (if t107 = true then (spec_IsCircuit.l0 k2 (wrap64 (3 + a0_0)) l0_1 (l0_1.length : Int) (wrap64 (x30_2 + 1)) a0_0 l0_1 l0_2) else (some false))) else (some false))) else (some false)) = some r := H
         have A15 := am A150; clear A150
         by_cases c16 : t105 = true
         ·subst c16
          have H1 : ((spec_l1In.f ((rd_T46 l0_1 x30_2).f1) 0 (wrap64 ((wrap64 ((wrap64 (3 + a0_0)) + x30_2)) - 1))).bind fun t106 => (if t106 = true then ((spec_l1In.f ((rd_T46 l0_1 x30_2).f2) 0 (wrap64 ((wrap64 ((wrap64 (3 + a0_0)) + x30_2)) - 1))).bind fun t107 => (if t107 = true then (spec_IsCircuit.l0 k2 (wrap64 (3 + a0_0)) l0_1 (l0_1.length : Int) (wrap64 (x30_2 + 1)) a0_0 l0_1 l0_2) else (some false))) else (some false))) = some r := by rw [if_pos rfl] at H; exact H
          clear H; have H := H1; clear H1
          replace H := Option.bind_eq_some_iff.mp H
          obtain ⟨t106, A170, H⟩ := H
          replace H : (if t106 = true then ((spec_l1In.f ((rd_T46 l0_1 x30_2).f2) 0 (wrap64 ((wrap64 ((wrap64 (3 + a0_0)) + x30_2)) - 1))).bind fun t107 => (if t107 = true then (spec_IsCircuit.l0 k2 (wrap64 (3 + a0_0)) l0_1 (l0_1.length : Int) (wrap64 (x30_2 + 1)) a0_0 l0_1 l0_2) else (some false))) else (some false)) = some r := H
          have A17 := am A170; clear A170
          by_cases c18 : t106 = true
          ·subst c18
           have H1 : ((spec_l1In.f ((rd_T46 l0_1 x30_2).f2) 0 (wrap64 ((wrap64 ((wrap64 (3 + a0_0)) + x30_2)) - 1))).bind fun t107 => (if t107 = true then (spec_IsCircuit.l0 k2 (wrap64 (3 + a0_0)) l0_1 (l0_1.length : Int) (wrap64 (x30_2 + 1)) a0_0 l0_1 l0_2) else (some false))) = some r := by rw [if_pos rfl] at H; exact H
           clear H; have H := H1; clear H1
           replace H := Option.bind_eq_some_iff.mp H
           obtain ⟨t107, A190, H⟩ := H
           replace H : (if t107 = true then (spec_IsCircuit.l0 k2 (wrap64 (3 + a0_0)) l0_1 (l0_1.length : Int) (wrap64 (x30_2 + 1)) a0_0 l0_1 l0_2) else (some false)) = some r := H
           have A19 := am A190; clear A190
           by_cases c20 : t107 = true
           ·subst c20
            have H1 : (spec_IsCircuit.l0 k2 (wrap64 (3 + a0_0)) l0_1 (l0_1.length : Int) (wrap64 (x30_2 + 1)) a0_0 l0_1 l0_2) = some r := by rw [if_pos rfl] at H; exact H
            clear H; have H := H1; clear H1
            have H' := am H
            clear H
            have p103 : 0 ≤ (x30_2 : Int) := of_decide_eq_true (by first | with_reducible assumption | assumption)
            have q103 : x30_2 < (l0_1.length : Int) := of_decide_eq_true (by first | with_reducible assumption | assumption)
            obtain ⟨ad103, e103, hx103_0, hx103_1, hx103_2, hx103_3, hx103_4, hx103_5, hx103_6, hx103_7, hx103_8, hx103_9, hx103_10⟩ := at_T46 HR0_1.out x30_2 p103 q103
            cases e103
            replace hx103_0 := (HB.out.cell (World.block_lt_of_cell? w _ hx103_0)).trans hx103_0
            replace hx103_1 := (HB.out.cell (World.block_lt_of_cell? w _ hx103_1)).trans hx103_1
            replace hx103_2 := (HB.out.cell (World.block_lt_of_cell? w _ hx103_2)).trans hx103_2
            replace hx103_3 := (HB.out.cell (World.block_lt_of_cell? w _ hx103_3)).trans hx103_3
            replace hx103_4 := (HB.out.cell (World.block_lt_of_cell? w _ hx103_4)).trans hx103_4
            replace hx103_5 := (HB.out.cell (World.block_lt_of_cell? w _ hx103_5)).trans hx103_5
            replace hx103_6 := (HB.out.cell (World.block_lt_of_cell? w _ hx103_6)).trans hx103_6
            replace hx103_7 := (HB.out.cell (World.block_lt_of_cell? w _ hx103_7)).trans hx103_7
            replace hx103_8 := (HB.out.cell (World.block_lt_of_cell? w _ hx103_8)).trans hx103_8
            replace hx103_9 := (HB.out.cell (World.block_lt_of_cell? w _ hx103_9)).trans hx103_9
            replace hx103_10 := (HB.out.cell (World.block_lt_of_cell? w _ hx103_10)).trans hx103_10
            replace p103 := eq_true p103
            replace q103 := eq_true q103
            go_wp2_with (first | ((with_reducible refine gate_dst (N := 5) rfl ?_); (try (refine gate_guard (by rfl) ?_; dsimp only)); refine box_event ?hg (N := 5) ?hd (cs := #[.int .i64 0, .int .i64 0, .int .i64 0, .int .i64 0, .int .i64 0, .int .i64 0, .int .i64 0, .int .i64 0, .int .i64 0, .int .i64 0, .int .i64 0]) (t := 46) ?hr ?_; (case hd => rfl); (case hg => rfl); (case hr => first | (go_simp; done) | (go_simp; rfl)); intro gb104 hg w21 hbox hb; have n0_ := am (blk_below (bA BK101.out) hb); have n1_ := am (below_step (bB HB.out) hb); have n2_ := am (hbox); have n3_ := am ((by rw [hg]; exact (below_size (bB HB.out)) : w.heap.size ≤ gb104)); have n4_ := am ((by rw [hg]; exact (below_size (bB HB.out)) : w.heap.size ≤ gb104)); have n5_ := am ((by rw [hg]; exact Nat.ne_of_lt (blk_lt (g := gb101) (o := .cells #[.int .i64 a0_0, .slice (some ad103) l0_1.length c0_1, .slice A0_2 l0_2.length c0_2] 35 (0, 0)) (bA BK101.out)) : gb101 ≠ gb104)); have n6_ := am ((by rw [hg]; exact Nat.ne_of_gt (blk_lt (g := gb101) (o := .cells #[.int .i64 a0_0, .slice (some ad103) l0_1.length c0_1, .slice A0_2 l0_2.length c0_2] 35 (0, 0)) (bA BK101.out)) : gb104 ≠ gb101)); clear BK101; clear HB; have BK101 := n0_; have HB := n1_; have BK104 := n2_; have GW104 := n3_; have GE104 := n4_; have NB101_104 := n5_; have NB104_101 := n6_; clear n0_ n1_ n2_ n3_ n4_ n5_ n6_; clear hb hbox hg; have hnb22 := NB104_101.out; have hnc22 := NB101_104.out; have hcz23_0 : w21.cell? ⟨gb104, 0, none⟩ = some (.int .i64 0) := (blk_cell BK104.out 0).trans rfl; have hcz23_1 : w21.cell? ⟨gb104, 1, none⟩ = some (.int .i64 0) := (blk_cell BK104.out 1).trans rfl; have hcz23_2 : w21.cell? ⟨gb104, 2, none⟩ = some (.int .i64 0) := (blk_cell BK104.out 2).trans rfl; have hcz23_3 : w21.cell? ⟨gb104, 3, none⟩ = some (.int .i64 0) := (blk_cell BK104.out 3).trans rfl; have hcz23_4 : w21.cell? ⟨gb104, 4, none⟩ = some (.int .i64 0) := (blk_cell BK104.out 4).trans rfl; have hcz23_5 : w21.cell? ⟨gb104, 5, none⟩ = some (.int .i64 0) := (blk_cell BK104.out 5).trans rfl; have hcz23_6 : w21.cell? ⟨gb104, 6, none⟩ = some (.int .i64 0) := (blk_cell BK104.out 6).trans rfl; have hcz23_7 : w21.cell? ⟨gb104, 7, none⟩ = some (.int .i64 0) := (blk_cell BK104.out 7).trans rfl; have hcz23_8 : w21.cell? ⟨gb104, 8, none⟩ = some (.int .i64 0) := (blk_cell BK104.out 8).trans rfl; have hcz23_9 : w21.cell? ⟨gb104, 9, none⟩ = some (.int .i64 0) := (blk_cell BK104.out 9).trans rfl; have hcz23_10 : w21.cell? ⟨gb104, 10, none⟩ = some (.int .i64 0) := (blk_cell BK104.out 10).trans rfl; have hfz23_0 := blk_frozen BK104.out 0; have hfz23_1 := blk_frozen BK104.out 1; have hfz23_2 := blk_frozen BK104.out 2; have hfz23_3 := blk_frozen BK104.out 3; have hfz23_4 := blk_frozen BK104.out 4; have hfz23_5 := blk_frozen BK104.out 5; have hfz23_6 := blk_frozen BK104.out 6; have hfz23_7 := blk_frozen BK104.out 7; have hfz23_8 := blk_frozen BK104.out 8; have hfz23_9 := blk_frozen BK104.out 9; have hfz23_10 := blk_frozen BK104.out 10) | ((with_reducible refine gate_callee (f := 56) rfl ?_); refine goesL_ (some 37) rfl rfl Try.func56 (by kernel_rfl) rfl #[.agg #[.int .i64 ((rd_T46 l0_1 x30_2).f0.f0), .int .i64 ((rd_T46 l0_1 x30_2).f0.f1), .int .i64 ((rd_T46 l0_1 x30_2).f0.f2), .int .i64 ((rd_T46 l0_1 x30_2).f0.f3), .int .i64 ((rd_T46 l0_1 x30_2).f0.f4), .int .i64 ((rd_T46 l0_1 x30_2).f0.f5), .int .i64 ((rd_T46 l0_1 x30_2).f0.f6), .int .i64 ((rd_T46 l0_1 x30_2).f0.f7), .int .i64 ((rd_T46 l0_1 x30_2).f0.f8)]] rfl bE ?_; (with_reducible refine (spec_IsTable.calls ((rd_T46 l0_1 x30_2).f0.f0) ((rd_T46 l0_1 x30_2).f0.f1) ((rd_T46 l0_1 x30_2).f0.f2) ((rd_T46 l0_1 x30_2).f0.f3) ((rd_T46 l0_1 x30_2).f0.f4) ((rd_T46 l0_1 x30_2).f0.f5) ((rd_T46 l0_1 x30_2).f0.f6) ((rd_T46 l0_1 x30_2).f0.f7) ((rd_T46 l0_1 x30_2).f0.f8) true _ A15.out).mono ?_); rintro e w24 ⟨rfl, hb⟩; refine ⟨_, rfl, ?_⟩; have n0_ := am (blk_below (g := gb101) (o := .cells #[.int .i64 a0_0, .slice (some ad103) l0_1.length c0_1, .slice A0_2 l0_2.length c0_2] 35 (0, 0)) (by (with_reducible repeat (first | refine blk_drewN ?_ _ | refine blk_drew ?_ | refine blk_alloc ?_ _)); refine blk_far ?_ NB101_104.out _; (with_reducible repeat (first | refine blk_drewN ?_ _ | refine blk_drew ?_ | refine blk_alloc ?_ _)); refine blk_far ?_ NB101_104.out _; (with_reducible repeat (first | refine blk_drewN ?_ _ | refine blk_drew ?_ | refine blk_alloc ?_ _)); refine blk_far ?_ NB101_104.out _; (with_reducible repeat (first | refine blk_drewN ?_ _ | refine blk_drew ?_ | refine blk_alloc ?_ _)); refine blk_far ?_ NB101_104.out _; (with_reducible repeat (first | refine blk_drewN ?_ _ | refine blk_drew ?_ | refine blk_alloc ?_ _)); refine blk_far ?_ NB101_104.out _; (with_reducible repeat (first | refine blk_drewN ?_ _ | refine blk_drew ?_ | refine blk_alloc ?_ _)); refine blk_far ?_ NB101_104.out _; (with_reducible repeat (first | refine blk_drewN ?_ _ | refine blk_drew ?_ | refine blk_alloc ?_ _)); refine blk_far ?_ NB101_104.out _; (with_reducible repeat (first | refine blk_drewN ?_ _ | refine blk_drew ?_ | refine blk_alloc ?_ _)); refine blk_far ?_ NB101_104.out _; (with_reducible repeat (first | refine blk_drewN ?_ _ | refine blk_drew ?_ | refine blk_alloc ?_ _)); refine blk_far ?_ NB101_104.out _; (with_reducible repeat (first | refine blk_drewN ?_ _ | refine blk_drew ?_ | refine blk_alloc ?_ _)); refine blk_far ?_ NB101_104.out _; (with_reducible repeat (first | refine blk_drewN ?_ _ | refine blk_drew ?_ | refine blk_alloc ?_ _)); refine blk_far ?_ NB101_104.out _; (with_reducible repeat (first | refine blk_drewN ?_ _ | refine blk_drew ?_ | refine blk_alloc ?_ _)); exact BK101.out) hb); have n1_ := am (blk_below (g := gb104) (o := .cells #[.int .i64 ((rd_T46 l0_1 x30_2).f0.f0), .int .i64 ((rd_T46 l0_1 x30_2).f0.f1), .int .i64 ((rd_T46 l0_1 x30_2).f0.f2), .int .i64 ((rd_T46 l0_1 x30_2).f0.f3), .int .i64 ((rd_T46 l0_1 x30_2).f0.f4), .int .i64 ((rd_T46 l0_1 x30_2).f0.f5), .int .i64 ((rd_T46 l0_1 x30_2).f0.f6), .int .i64 ((rd_T46 l0_1 x30_2).f0.f7), .int .i64 ((rd_T46 l0_1 x30_2).f0.f8), .int .i64 ((rd_T46 l0_1 x30_2).f1), .int .i64 ((rd_T46 l0_1 x30_2).f2)] 46 (0, 0)) (by (with_reducible repeat (first | refine blk_drewN ?_ _ | refine blk_drew ?_ | refine blk_alloc ?_ _)); refine blk_put (cs := #[.int .i64 ((rd_T46 l0_1 x30_2).f0.f0), .int .i64 ((rd_T46 l0_1 x30_2).f0.f1), .int .i64 ((rd_T46 l0_1 x30_2).f0.f2), .int .i64 ((rd_T46 l0_1 x30_2).f0.f3), .int .i64 ((rd_T46 l0_1 x30_2).f0.f4), .int .i64 ((rd_T46 l0_1 x30_2).f0.f5), .int .i64 ((rd_T46 l0_1 x30_2).f0.f6), .int .i64 ((rd_T46 l0_1 x30_2).f0.f7), .int .i64 ((rd_T46 l0_1 x30_2).f0.f8), .int .i64 ((rd_T46 l0_1 x30_2).f1), .int .i64 0]) ?_ 10 _ rfl; (with_reducible repeat (first | refine blk_drewN ?_ _ | refine blk_drew ?_ | refine blk_alloc ?_ _)); refine blk_put (cs := #[.int .i64 ((rd_T46 l0_1 x30_2).f0.f0), .int .i64 ((rd_T46 l0_1 x30_2).f0.f1), .int .i64 ((rd_T46 l0_1 x30_2).f0.f2), .int .i64 ((rd_T46 l0_1 x30_2).f0.f3), .int .i64 ((rd_T46 l0_1 x30_2).f0.f4), .int .i64 ((rd_T46 l0_1 x30_2).f0.f5), .int .i64 ((rd_T46 l0_1 x30_2).f0.f6), .int .i64 ((rd_T46 l0_1 x30_2).f0.f7), .int .i64 ((rd_T46 l0_1 x30_2).f0.f8), .int .i64 0, .int .i64 0]) ?_ 9 _ rfl; (with_reducible repeat (first | refine blk_drewN ?_ _ | refine blk_drew ?_ | refine blk_alloc ?_ _)); refine blk_put (cs := #[.int .i64 ((rd_T46 l0_1 x30_2).f0.f0), .int .i64 ((rd_T46 l0_1 x30_2).f0.f1), .int .i64 ((rd_T46 l0_1 x30_2).f0.f2), .int .i64 ((rd_T46 l0_1 x30_2).f0.f3), .int .i64 ((rd_T46 l0_1 x30_2).f0.f4), .int .i64 ((rd_T46 l0_1 x30_2).f0.f5), .int .i64 ((rd_T46 l0_1 x30_2).f0.f6), .int .i64 ((rd_T46 l0_1 x30_2).f0.f7), .int .i64 0, .int .i64 0, .int .i64 0]) ?_ 8 _ rfl; (with_reducible repeat (first | refine blk_drewN ?_ _ | refine blk_drew ?_ | refine blk_alloc ?_ _)); refine blk_put (cs := #[.int .i64 ((rd_T46 l0_1 x30_2).f0.f0), .int .i64 ((rd_T46 l0_1 x30_2).f0.f1), .int .i64 ((rd_T46 l0_1 x30_2).f0.f2), .int .i64 ((rd_T46 l0_1 x30_2).f0.f3), .int .i64 ((rd_T46 l0_1 x30_2).f0.f4), .int .i64 ((rd_T46 l0_1 x30_2).f0.f5), .int .i64 ((rd_T46 l0_1 x30_2).f0.f6), .int .i64 0, .int .i64 0, .int .i64 0, .int .i64 0]) ?_ 7 _ rfl; (with_reducible repeat (first | refine blk_drewN ?_ _ | refine blk_drew ?_ | refine blk_alloc ?_ _)); refine blk_put (cs := #[.int .i64 ((rd_T46 l0_1 x30_2).f0.f0), .int .i64 ((rd_T46 l0_1 x30_2).f0.f1), .int .i64 ((rd_T46 l0_1 x30_2).f0.f2), .int .i64 ((rd_T46 l0_1 x30_2).f0.f3), .int .i64 ((rd_T46 l0_1 x30_2).f0.f4), .int .i64 ((rd_T46 l0_1 x30_2).f0.f5), .int .i64 0, .int .i64 0, .int .i64 0, .int .i64 0, .int .i64 0]) ?_ 6 _ rfl; (with_reducible repeat (first | refine blk_drewN ?_ _ | refine blk_drew ?_ | refine blk_alloc ?_ _)); refine blk_put (cs := #[.int .i64 ((rd_T46 l0_1 x30_2).f0.f0), .int .i64 ((rd_T46 l0_1 x30_2).f0.f1), .int .i64 ((rd_T46 l0_1 x30_2).f0.f2), .int .i64 ((rd_T46 l0_1 x30_2).f0.f3), .int .i64 ((rd_T46 l0_1 x30_2).f0.f4), .int .i64 0, .int .i64 0, .int .i64 0, .int .i64 0, .int .i64 0, .int .i64 0]) ?_ 5 _ rfl; (with_reducible repeat (first | refine blk_drewN ?_ _ | refine blk_drew ?_ | refine blk_alloc ?_ _)); refine blk_put (cs := #[.int .i64 ((rd_T46 l0_1 x30_2).f0.f0), .int .i64 ((rd_T46 l0_1 x30_2).f0.f1), .int .i64 ((rd_T46 l0_1 x30_2).f0.f2), .int .i64 ((rd_T46 l0_1 x30_2).f0.f3), .int .i64 0, .int .i64 0, .int .i64 0, .int .i64 0, .int .i64 0, .int .i64 0, .int .i64 0]) ?_ 4 _ rfl; (with_reducible repeat (first | refine blk_drewN ?_ _ | refine blk_drew ?_ | refine blk_alloc ?_ _)); refine blk_put (cs := #[.int .i64 ((rd_T46 l0_1 x30_2).f0.f0), .int .i64 ((rd_T46 l0_1 x30_2).f0.f1), .int .i64 ((rd_T46 l0_1 x30_2).f0.f2), .int .i64 0, .int .i64 0, .int .i64 0, .int .i64 0, .int .i64 0, .int .i64 0, .int .i64 0, .int .i64 0]) ?_ 3 _ rfl; (with_reducible repeat (first | refine blk_drewN ?_ _ | refine blk_drew ?_ | refine blk_alloc ?_ _)); refine blk_put (cs := #[.int .i64 ((rd_T46 l0_1 x30_2).f0.f0), .int .i64 ((rd_T46 l0_1 x30_2).f0.f1), .int .i64 0, .int .i64 0, .int .i64 0, .int .i64 0, .int .i64 0, .int .i64 0, .int .i64 0, .int .i64 0, .int .i64 0]) ?_ 2 _ rfl; (with_reducible repeat (first | refine blk_drewN ?_ _ | refine blk_drew ?_ | refine blk_alloc ?_ _)); refine blk_put (cs := #[.int .i64 ((rd_T46 l0_1 x30_2).f0.f0), .int .i64 0, .int .i64 0, .int .i64 0, .int .i64 0, .int .i64 0, .int .i64 0, .int .i64 0, .int .i64 0, .int .i64 0, .int .i64 0]) ?_ 1 _ rfl; (with_reducible repeat (first | refine blk_drewN ?_ _ | refine blk_drew ?_ | refine blk_alloc ?_ _)); refine blk_put (cs := #[.int .i64 0, .int .i64 0, .int .i64 0, .int .i64 0, .int .i64 0, .int .i64 0, .int .i64 0, .int .i64 0, .int .i64 0, .int .i64 0, .int .i64 0]) ?_ 0 _ rfl; (with_reducible repeat (first | refine blk_drewN ?_ _ | refine blk_drew ?_ | refine blk_alloc ?_ _)); exact BK104.out) hb); have n2_ := am (below_step (bB HB.out) hb); clear BK101; clear BK104; clear HB; have BK101 := n0_; have BK104 := n1_; have HB := n2_; clear n0_ n1_ n2_; (try clear hb); (try clear hb2); (try clear hk); (try clear hi); have hcz25_0 : w24.cell? ⟨gb104, 0, none⟩ = some (.int .i64 ((rd_T46 l0_1 x30_2).f0.f0)) := (blk_cell BK104.out 0).trans rfl; have hcz25_1 : w24.cell? ⟨gb104, 1, none⟩ = some (.int .i64 ((rd_T46 l0_1 x30_2).f0.f1)) := (blk_cell BK104.out 1).trans rfl; have hcz25_2 : w24.cell? ⟨gb104, 2, none⟩ = some (.int .i64 ((rd_T46 l0_1 x30_2).f0.f2)) := (blk_cell BK104.out 2).trans rfl; have hcz25_3 : w24.cell? ⟨gb104, 3, none⟩ = some (.int .i64 ((rd_T46 l0_1 x30_2).f0.f3)) := (blk_cell BK104.out 3).trans rfl; have hcz25_4 : w24.cell? ⟨gb104, 4, none⟩ = some (.int .i64 ((rd_T46 l0_1 x30_2).f0.f4)) := (blk_cell BK104.out 4).trans rfl; have hcz25_5 : w24.cell? ⟨gb104, 5, none⟩ = some (.int .i64 ((rd_T46 l0_1 x30_2).f0.f5)) := (blk_cell BK104.out 5).trans rfl; have hcz25_6 : w24.cell? ⟨gb104, 6, none⟩ = some (.int .i64 ((rd_T46 l0_1 x30_2).f0.f6)) := (blk_cell BK104.out 6).trans rfl; have hcz25_7 : w24.cell? ⟨gb104, 7, none⟩ = some (.int .i64 ((rd_T46 l0_1 x30_2).f0.f7)) := (blk_cell BK104.out 7).trans rfl; have hcz25_8 : w24.cell? ⟨gb104, 8, none⟩ = some (.int .i64 ((rd_T46 l0_1 x30_2).f0.f8)) := (blk_cell BK104.out 8).trans rfl; have hcz25_9 : w24.cell? ⟨gb104, 9, none⟩ = some (.int .i64 ((rd_T46 l0_1 x30_2).f1)) := (blk_cell BK104.out 9).trans rfl; have hcz25_10 : w24.cell? ⟨gb104, 10, none⟩ = some (.int .i64 ((rd_T46 l0_1 x30_2).f2)) := (blk_cell BK104.out 10).trans rfl; have hfz25_0 := blk_frozen BK104.out 0; have hfz25_1 := blk_frozen BK104.out 1; have hfz25_2 := blk_frozen BK104.out 2; have hfz25_3 := blk_frozen BK104.out 3; have hfz25_4 := blk_frozen BK104.out 4; have hfz25_5 := blk_frozen BK104.out 5; have hfz25_6 := blk_frozen BK104.out 6; have hfz25_7 := blk_frozen BK104.out 7; have hfz25_8 := blk_frozen BK104.out 8; have hfz25_9 := blk_frozen BK104.out 9; have hfz25_10 := blk_frozen BK104.out 10) | (go_at_call 55; (with_reducible refine (spec_l1In.calls ((rd_T46 l0_1 x30_2).f1) 0 (wrap64 ((wrap64 ((wrap64 (3 + a0_0)) + x30_2)) - 1)) true _ A17.out).mono ?_); rintro e w' ⟨rfl, ⟨nd, rfl⟩⟩) | (go_at_call 55; (with_reducible refine (spec_l1In.calls ((rd_T46 l0_1 x30_2).f2) 0 (wrap64 ((wrap64 ((wrap64 (3 + a0_0)) + x30_2)) - 1)) true _ A19.out).mono ?_); rintro e w' ⟨rfl, ⟨nd, rfl⟩⟩))
            go_roundg k2
            case measure => have := HJ1.out; have := HK2.out; omega
            case rel => exact ⟨(wrap64 (x30_2 + 1)), (by first | rfl | (simp; done) | (simp [*]; done)), H', ⟨by have := HJ1.out; have := HK2.out; omega⟩, ⟨bA BK101.out⟩, ⟨bB HB.out⟩⟩
           ·replace c20 := Bool.eq_false_iff.mpr c20
            subst c20
            have H1 : (some false) = some r := by rw [if_neg (show ¬ (false = true) by decide)] at H; exact H
            clear H; have H := H1; clear H1
            obtain rfl := Option.some.inj H
            have p103 : 0 ≤ (x30_2 : Int) := of_decide_eq_true (by first | with_reducible assumption | assumption)
            have q103 : x30_2 < (l0_1.length : Int) := of_decide_eq_true (by first | with_reducible assumption | assumption)
            obtain ⟨ad103, e103, hx103_0, hx103_1, hx103_2, hx103_3, hx103_4, hx103_5, hx103_6, hx103_7, hx103_8, hx103_9, hx103_10⟩ := at_T46 HR0_1.out x30_2 p103 q103
            cases e103
            replace hx103_0 := (HB.out.cell (World.block_lt_of_cell? w _ hx103_0)).trans hx103_0
            replace hx103_1 := (HB.out.cell (World.block_lt_of_cell? w _ hx103_1)).trans hx103_1
            replace hx103_2 := (HB.out.cell (World.block_lt_of_cell? w _ hx103_2)).trans hx103_2
            replace hx103_3 := (HB.out.cell (World.block_lt_of_cell? w _ hx103_3)).trans hx103_3
            replace hx103_4 := (HB.out.cell (World.block_lt_of_cell? w _ hx103_4)).trans hx103_4
            replace hx103_5 := (HB.out.cell (World.block_lt_of_cell? w _ hx103_5)).trans hx103_5
            replace hx103_6 := (HB.out.cell (World.block_lt_of_cell? w _ hx103_6)).trans hx103_6
            replace hx103_7 := (HB.out.cell (World.block_lt_of_cell? w _ hx103_7)).trans hx103_7
            replace hx103_8 := (HB.out.cell (World.block_lt_of_cell? w _ hx103_8)).trans hx103_8
            replace hx103_9 := (HB.out.cell (World.block_lt_of_cell? w _ hx103_9)).trans hx103_9
            replace hx103_10 := (HB.out.cell (World.block_lt_of_cell? w _ hx103_10)).trans hx103_10
            replace p103 := eq_true p103
            replace q103 := eq_true q103
            go_wp2_with (first | ((with_reducible refine gate_dst (N := 5) rfl ?_); (try (refine gate_guard (by rfl) ?_; dsimp only)); refine box_event ?hg (N := 5) ?hd (cs := #[.int .i64 0, .int .i64 0, .int .i64 0, .int .i64 0, .int .i64 0, .int .i64 0, .int .i64 0, .int .i64 0, .int .i64 0, .int .i64 0, .int .i64 0]) (t := 46) ?hr ?_; (case hd => rfl); (case hg => rfl); (case hr => first | (go_simp; done) | (go_simp; rfl)); intro gb104 hg w26 hbox hb; have n0_ := am (blk_below (bA BK101.out) hb); have n1_ := am (below_step (bB HB.out) hb); have n2_ := am (hbox); have n3_ := am ((by rw [hg]; exact (below_size (bB HB.out)) : w.heap.size ≤ gb104)); have n4_ := am ((by rw [hg]; exact (below_size (bB HB.out)) : w.heap.size ≤ gb104)); have n5_ := am ((by rw [hg]; exact Nat.ne_of_lt (blk_lt (g := gb101) (o := .cells #[.int .i64 a0_0, .slice (some ad103) l0_1.length c0_1, .slice A0_2 l0_2.length c0_2] 35 (0, 0)) (bA BK101.out)) : gb101 ≠ gb104)); have n6_ := am ((by rw [hg]; exact Nat.ne_of_gt (blk_lt (g := gb101) (o := .cells #[.int .i64 a0_0, .slice (some ad103) l0_1.length c0_1, .slice A0_2 l0_2.length c0_2] 35 (0, 0)) (bA BK101.out)) : gb104 ≠ gb101)); clear BK101; clear HB; have BK101 := n0_; have HB := n1_; have BK104 := n2_; have GW104 := n3_; have GE104 := n4_; have NB101_104 := n5_; have NB104_101 := n6_; clear n0_ n1_ n2_ n3_ n4_ n5_ n6_; clear hb hbox hg; have hnb27 := NB104_101.out; have hnc27 := NB101_104.out; have hcz28_0 : w26.cell? ⟨gb104, 0, none⟩ = some (.int .i64 0) := (blk_cell BK104.out 0).trans rfl; have hcz28_1 : w26.cell? ⟨gb104, 1, none⟩ = some (.int .i64 0) := (blk_cell BK104.out 1).trans rfl; have hcz28_2 : w26.cell? ⟨gb104, 2, none⟩ = some (.int .i64 0) := (blk_cell BK104.out 2).trans rfl; have hcz28_3 : w26.cell? ⟨gb104, 3, none⟩ = some (.int .i64 0) := (blk_cell BK104.out 3).trans rfl; have hcz28_4 : w26.cell? ⟨gb104, 4, none⟩ = some (.int .i64 0) := (blk_cell BK104.out 4).trans rfl; have hcz28_5 : w26.cell? ⟨gb104, 5, none⟩ = some (.int .i64 0) := (blk_cell BK104.out 5).trans rfl; have hcz28_6 : w26.cell? ⟨gb104, 6, none⟩ = some (.int .i64 0) := (blk_cell BK104.out 6).trans rfl; have hcz28_7 : w26.cell? ⟨gb104, 7, none⟩ = some (.int .i64 0) := (blk_cell BK104.out 7).trans rfl; have hcz28_8 : w26.cell? ⟨gb104, 8, none⟩ = some (.int .i64 0) := (blk_cell BK104.out 8).trans rfl; have hcz28_9 : w26.cell? ⟨gb104, 9, none⟩ = some (.int .i64 0) := (blk_cell BK104.out 9).trans rfl; have hcz28_10 : w26.cell? ⟨gb104, 10, none⟩ = some (.int .i64 0) := (blk_cell BK104.out 10).trans rfl; have hfz28_0 := blk_frozen BK104.out 0; have hfz28_1 := blk_frozen BK104.out 1; have hfz28_2 := blk_frozen BK104.out 2; have hfz28_3 := blk_frozen BK104.out 3; have hfz28_4 := blk_frozen BK104.out 4; have hfz28_5 := blk_frozen BK104.out 5; have hfz28_6 := blk_frozen BK104.out 6; have hfz28_7 := blk_frozen BK104.out 7; have hfz28_8 := blk_frozen BK104.out 8; have hfz28_9 := blk_frozen BK104.out 9; have hfz28_10 := blk_frozen BK104.out 10) | ((with_reducible refine gate_callee (f := 56) rfl ?_); refine goesL_ (some 37) rfl rfl Try.func56 (by kernel_rfl) rfl #[.agg #[.int .i64 ((rd_T46 l0_1 x30_2).f0.f0), .int .i64 ((rd_T46 l0_1 x30_2).f0.f1), .int .i64 ((rd_T46 l0_1 x30_2).f0.f2), .int .i64 ((rd_T46 l0_1 x30_2).f0.f3), .int .i64 ((rd_T46 l0_1 x30_2).f0.f4), .int .i64 ((rd_T46 l0_1 x30_2).f0.f5), .int .i64 ((rd_T46 l0_1 x30_2).f0.f6), .int .i64 ((rd_T46 l0_1 x30_2).f0.f7), .int .i64 ((rd_T46 l0_1 x30_2).f0.f8)]] rfl bE ?_; (with_reducible refine (spec_IsTable.calls ((rd_T46 l0_1 x30_2).f0.f0) ((rd_T46 l0_1 x30_2).f0.f1) ((rd_T46 l0_1 x30_2).f0.f2) ((rd_T46 l0_1 x30_2).f0.f3) ((rd_T46 l0_1 x30_2).f0.f4) ((rd_T46 l0_1 x30_2).f0.f5) ((rd_T46 l0_1 x30_2).f0.f6) ((rd_T46 l0_1 x30_2).f0.f7) ((rd_T46 l0_1 x30_2).f0.f8) true _ A15.out).mono ?_); rintro e w29 ⟨rfl, hb⟩; refine ⟨_, rfl, ?_⟩; have n0_ := am (blk_below (g := gb101) (o := .cells #[.int .i64 a0_0, .slice (some ad103) l0_1.length c0_1, .slice A0_2 l0_2.length c0_2] 35 (0, 0)) (by (with_reducible repeat (first | refine blk_drewN ?_ _ | refine blk_drew ?_ | refine blk_alloc ?_ _)); refine blk_far ?_ NB101_104.out _; (with_reducible repeat (first | refine blk_drewN ?_ _ | refine blk_drew ?_ | refine blk_alloc ?_ _)); refine blk_far ?_ NB101_104.out _; (with_reducible repeat (first | refine blk_drewN ?_ _ | refine blk_drew ?_ | refine blk_alloc ?_ _)); refine blk_far ?_ NB101_104.out _; (with_reducible repeat (first | refine blk_drewN ?_ _ | refine blk_drew ?_ | refine blk_alloc ?_ _)); refine blk_far ?_ NB101_104.out _; (with_reducible repeat (first | refine blk_drewN ?_ _ | refine blk_drew ?_ | refine blk_alloc ?_ _)); refine blk_far ?_ NB101_104.out _; (with_reducible repeat (first | refine blk_drewN ?_ _ | refine blk_drew ?_ | refine blk_alloc ?_ _)); refine blk_far ?_ NB101_104.out _; (with_reducible repeat (first | refine blk_drewN ?_ _ | refine blk_drew ?_ | refine blk_alloc ?_ _)); refine blk_far ?_ NB101_104.out _; (with_reducible repeat (first | refine blk_drewN ?_ _ | refine blk_drew ?_ | refine blk_alloc ?_ _)); refine blk_far ?_ NB101_104.out _; (with_reducible repeat (first | refine blk_drewN ?_ _ | refine blk_drew ?_ | refine blk_alloc ?_ _)); refine blk_far ?_ NB101_104.out _; (with_reducible repeat (first | refine blk_drewN ?_ _ | refine blk_drew ?_ | refine blk_alloc ?_ _)); refine blk_far ?_ NB101_104.out _; (with_reducible repeat (first | refine blk_drewN ?_ _ | refine blk_drew ?_ | refine blk_alloc ?_ _)); refine blk_far ?_ NB101_104.out _; (with_reducible repeat (first | refine blk_drewN ?_ _ | refine blk_drew ?_ | refine blk_alloc ?_ _)); exact BK101.out) hb); have n1_ := am (blk_below (g := gb104) (o := .cells #[.int .i64 ((rd_T46 l0_1 x30_2).f0.f0), .int .i64 ((rd_T46 l0_1 x30_2).f0.f1), .int .i64 ((rd_T46 l0_1 x30_2).f0.f2), .int .i64 ((rd_T46 l0_1 x30_2).f0.f3), .int .i64 ((rd_T46 l0_1 x30_2).f0.f4), .int .i64 ((rd_T46 l0_1 x30_2).f0.f5), .int .i64 ((rd_T46 l0_1 x30_2).f0.f6), .int .i64 ((rd_T46 l0_1 x30_2).f0.f7), .int .i64 ((rd_T46 l0_1 x30_2).f0.f8), .int .i64 ((rd_T46 l0_1 x30_2).f1), .int .i64 ((rd_T46 l0_1 x30_2).f2)] 46 (0, 0)) (by (with_reducible repeat (first | refine blk_drewN ?_ _ | refine blk_drew ?_ | refine blk_alloc ?_ _)); refine blk_put (cs := #[.int .i64 ((rd_T46 l0_1 x30_2).f0.f0), .int .i64 ((rd_T46 l0_1 x30_2).f0.f1), .int .i64 ((rd_T46 l0_1 x30_2).f0.f2), .int .i64 ((rd_T46 l0_1 x30_2).f0.f3), .int .i64 ((rd_T46 l0_1 x30_2).f0.f4), .int .i64 ((rd_T46 l0_1 x30_2).f0.f5), .int .i64 ((rd_T46 l0_1 x30_2).f0.f6), .int .i64 ((rd_T46 l0_1 x30_2).f0.f7), .int .i64 ((rd_T46 l0_1 x30_2).f0.f8), .int .i64 ((rd_T46 l0_1 x30_2).f1), .int .i64 0]) ?_ 10 _ rfl; (with_reducible repeat (first | refine blk_drewN ?_ _ | refine blk_drew ?_ | refine blk_alloc ?_ _)); refine blk_put (cs := #[.int .i64 ((rd_T46 l0_1 x30_2).f0.f0), .int .i64 ((rd_T46 l0_1 x30_2).f0.f1), .int .i64 ((rd_T46 l0_1 x30_2).f0.f2), .int .i64 ((rd_T46 l0_1 x30_2).f0.f3), .int .i64 ((rd_T46 l0_1 x30_2).f0.f4), .int .i64 ((rd_T46 l0_1 x30_2).f0.f5), .int .i64 ((rd_T46 l0_1 x30_2).f0.f6), .int .i64 ((rd_T46 l0_1 x30_2).f0.f7), .int .i64 ((rd_T46 l0_1 x30_2).f0.f8), .int .i64 0, .int .i64 0]) ?_ 9 _ rfl; (with_reducible repeat (first | refine blk_drewN ?_ _ | refine blk_drew ?_ | refine blk_alloc ?_ _)); refine blk_put (cs := #[.int .i64 ((rd_T46 l0_1 x30_2).f0.f0), .int .i64 ((rd_T46 l0_1 x30_2).f0.f1), .int .i64 ((rd_T46 l0_1 x30_2).f0.f2), .int .i64 ((rd_T46 l0_1 x30_2).f0.f3), .int .i64 ((rd_T46 l0_1 x30_2).f0.f4), .int .i64 ((rd_T46 l0_1 x30_2).f0.f5), .int .i64 ((rd_T46 l0_1 x30_2).f0.f6), .int .i64 ((rd_T46 l0_1 x30_2).f0.f7), .int .i64 0, .int .i64 0, .int .i64 0]) ?_ 8 _ rfl; (with_reducible repeat (first | refine blk_drewN ?_ _ | refine blk_drew ?_ | refine blk_alloc ?_ _)); refine blk_put (cs := #[.int .i64 ((rd_T46 l0_1 x30_2).f0.f0), .int .i64 ((rd_T46 l0_1 x30_2).f0.f1), .int .i64 ((rd_T46 l0_1 x30_2).f0.f2), .int .i64 ((rd_T46 l0_1 x30_2).f0.f3), .int .i64 ((rd_T46 l0_1 x30_2).f0.f4), .int .i64 ((rd_T46 l0_1 x30_2).f0.f5), .int .i64 ((rd_T46 l0_1 x30_2).f0.f6), .int .i64 0, .int .i64 0, .int .i64 0, .int .i64 0]) ?_ 7 _ rfl; (with_reducible repeat (first | refine blk_drewN ?_ _ | refine blk_drew ?_ | refine blk_alloc ?_ _)); refine blk_put (cs := #[.int .i64 ((rd_T46 l0_1 x30_2).f0.f0), .int .i64 ((rd_T46 l0_1 x30_2).f0.f1), .int .i64 ((rd_T46 l0_1 x30_2).f0.f2), .int .i64 ((rd_T46 l0_1 x30_2).f0.f3), .int .i64 ((rd_T46 l0_1 x30_2).f0.f4), .int .i64 ((rd_T46 l0_1 x30_2).f0.f5), .int .i64 0, .int .i64 0, .int .i64 0, .int .i64 0, .int .i64 0]) ?_ 6 _ rfl; (with_reducible repeat (first | refine blk_drewN ?_ _ | refine blk_drew ?_ | refine blk_alloc ?_ _)); refine blk_put (cs := #[.int .i64 ((rd_T46 l0_1 x30_2).f0.f0), .int .i64 ((rd_T46 l0_1 x30_2).f0.f1), .int .i64 ((rd_T46 l0_1 x30_2).f0.f2), .int .i64 ((rd_T46 l0_1 x30_2).f0.f3), .int .i64 ((rd_T46 l0_1 x30_2).f0.f4), .int .i64 0, .int .i64 0, .int .i64 0, .int .i64 0, .int .i64 0, .int .i64 0]) ?_ 5 _ rfl; (with_reducible repeat (first | refine blk_drewN ?_ _ | refine blk_drew ?_ | refine blk_alloc ?_ _)); refine blk_put (cs := #[.int .i64 ((rd_T46 l0_1 x30_2).f0.f0), .int .i64 ((rd_T46 l0_1 x30_2).f0.f1), .int .i64 ((rd_T46 l0_1 x30_2).f0.f2), .int .i64 ((rd_T46 l0_1 x30_2).f0.f3), .int .i64 0, .int .i64 0, .int .i64 0, .int .i64 0, .int .i64 0, .int .i64 0, .int .i64 0]) ?_ 4 _ rfl; (with_reducible repeat (first | refine blk_drewN ?_ _ | refine blk_drew ?_ | refine blk_alloc ?_ _)); refine blk_put (cs := #[.int .i64 ((rd_T46 l0_1 x30_2).f0.f0), .int .i64 ((rd_T46 l0_1 x30_2).f0.f1), .int .i64 ((rd_T46 l0_1 x30_2).f0.f2), .int .i64 0, .int .i64 0, .int .i64 0, .int .i64 0, .int .i64 0, .int .i64 0, .int .i64 0, .int .i64 0]) ?_ 3 _ rfl; (with_reducible repeat (first | refine blk_drewN ?_ _ | refine blk_drew ?_ | refine blk_alloc ?_ _)); refine blk_put (cs := #[.int .i64 ((rd_T46 l0_1 x30_2).f0.f0), .int .i64 ((rd_T46 l0_1 x30_2).f0.f1), .int .i64 0, .int .i64 0, .int .i64 0, .int .i64 0, .int .i64 0, .int .i64 0, .int .i64 0, .int .i64 0, .int .i64 0]) ?_ 2 _ rfl; (with_reducible repeat (first | refine blk_drewN ?_ _ | refine blk_drew ?_ | refine blk_alloc ?_ _)); refine blk_put (cs := #[.int .i64 ((rd_T46 l0_1 x30_2).f0.f0), .int .i64 0, .int .i64 0, .int .i64 0, .int .i64 0, .int .i64 0, .int .i64 0, .int .i64 0, .int .i64 0, .int .i64 0, .int .i64 0]) ?_ 1 _ rfl; (with_reducible repeat (first | refine blk_drewN ?_ _ | refine blk_drew ?_ | refine blk_alloc ?_ _)); refine blk_put (cs := #[.int .i64 0, .int .i64 0, .int .i64 0, .int .i64 0, .int .i64 0, .int .i64 0, .int .i64 0, .int .i64 0, .int .i64 0, .int .i64 0, .int .i64 0]) ?_ 0 _ rfl; (with_reducible repeat (first | refine blk_drewN ?_ _ | refine blk_drew ?_ | refine blk_alloc ?_ _)); exact BK104.out) hb); have n2_ := am (below_step (bB HB.out) hb); clear BK101; clear BK104; clear HB; have BK101 := n0_; have BK104 := n1_; have HB := n2_; clear n0_ n1_ n2_; (try clear hb); (try clear hb2); (try clear hk); (try clear hi); have hcz30_0 : w29.cell? ⟨gb104, 0, none⟩ = some (.int .i64 ((rd_T46 l0_1 x30_2).f0.f0)) := (blk_cell BK104.out 0).trans rfl; have hcz30_1 : w29.cell? ⟨gb104, 1, none⟩ = some (.int .i64 ((rd_T46 l0_1 x30_2).f0.f1)) := (blk_cell BK104.out 1).trans rfl; have hcz30_2 : w29.cell? ⟨gb104, 2, none⟩ = some (.int .i64 ((rd_T46 l0_1 x30_2).f0.f2)) := (blk_cell BK104.out 2).trans rfl; have hcz30_3 : w29.cell? ⟨gb104, 3, none⟩ = some (.int .i64 ((rd_T46 l0_1 x30_2).f0.f3)) := (blk_cell BK104.out 3).trans rfl; have hcz30_4 : w29.cell? ⟨gb104, 4, none⟩ = some (.int .i64 ((rd_T46 l0_1 x30_2).f0.f4)) := (blk_cell BK104.out 4).trans rfl; have hcz30_5 : w29.cell? ⟨gb104, 5, none⟩ = some (.int .i64 ((rd_T46 l0_1 x30_2).f0.f5)) := (blk_cell BK104.out 5).trans rfl; have hcz30_6 : w29.cell? ⟨gb104, 6, none⟩ = some (.int .i64 ((rd_T46 l0_1 x30_2).f0.f6)) := (blk_cell BK104.out 6).trans rfl; have hcz30_7 : w29.cell? ⟨gb104, 7, none⟩ = some (.int .i64 ((rd_T46 l0_1 x30_2).f0.f7)) := (blk_cell BK104.out 7).trans rfl; have hcz30_8 : w29.cell? ⟨gb104, 8, none⟩ = some (.int .i64 ((rd_T46 l0_1 x30_2).f0.f8)) := (blk_cell BK104.out 8).trans rfl; have hcz30_9 : w29.cell? ⟨gb104, 9, none⟩ = some (.int .i64 ((rd_T46 l0_1 x30_2).f1)) := (blk_cell BK104.out 9).trans rfl; have hcz30_10 : w29.cell? ⟨gb104, 10, none⟩ = some (.int .i64 ((rd_T46 l0_1 x30_2).f2)) := (blk_cell BK104.out 10).trans rfl; have hfz30_0 := blk_frozen BK104.out 0; have hfz30_1 := blk_frozen BK104.out 1; have hfz30_2 := blk_frozen BK104.out 2; have hfz30_3 := blk_frozen BK104.out 3; have hfz30_4 := blk_frozen BK104.out 4; have hfz30_5 := blk_frozen BK104.out 5; have hfz30_6 := blk_frozen BK104.out 6; have hfz30_7 := blk_frozen BK104.out 7; have hfz30_8 := blk_frozen BK104.out 8; have hfz30_9 := blk_frozen BK104.out 9; have hfz30_10 := blk_frozen BK104.out 10) | (go_at_call 55; (with_reducible refine (spec_l1In.calls ((rd_T46 l0_1 x30_2).f1) 0 (wrap64 ((wrap64 ((wrap64 (3 + a0_0)) + x30_2)) - 1)) true _ A17.out).mono ?_); rintro e w' ⟨rfl, ⟨nd, rfl⟩⟩) | (go_at_call 55; (with_reducible refine (spec_l1In.calls ((rd_T46 l0_1 x30_2).f2) 0 (wrap64 ((wrap64 ((wrap64 (3 + a0_0)) + x30_2)) - 1)) false _ A19.out).mono ?_); rintro e w' ⟨rfl, ⟨nd, rfl⟩⟩))
            go_ret
            exact ⟨by first | rfl | (simp [errW_none, errW_some] <;> rfl) | (simp [*, errW_none, errW_some] <;> rfl), bB HB.out⟩
          ·replace c18 := Bool.eq_false_iff.mpr c18
           subst c18
           have H1 : (some false) = some r := by rw [if_neg (show ¬ (false = true) by decide)] at H; exact H
           clear H; have H := H1; clear H1
           obtain rfl := Option.some.inj H
           have p103 : 0 ≤ (x30_2 : Int) := of_decide_eq_true (by first | with_reducible assumption | assumption)
           have q103 : x30_2 < (l0_1.length : Int) := of_decide_eq_true (by first | with_reducible assumption | assumption)
           obtain ⟨ad103, e103, hx103_0, hx103_1, hx103_2, hx103_3, hx103_4, hx103_5, hx103_6, hx103_7, hx103_8, hx103_9, hx103_10⟩ := at_T46 HR0_1.out x30_2 p103 q103
           cases e103
           replace hx103_0 := (HB.out.cell (World.block_lt_of_cell? w _ hx103_0)).trans hx103_0
           replace hx103_1 := (HB.out.cell (World.block_lt_of_cell? w _ hx103_1)).trans hx103_1
           replace hx103_2 := (HB.out.cell (World.block_lt_of_cell? w _ hx103_2)).trans hx103_2
           replace hx103_3 := (HB.out.cell (World.block_lt_of_cell? w _ hx103_3)).trans hx103_3
           replace hx103_4 := (HB.out.cell (World.block_lt_of_cell? w _ hx103_4)).trans hx103_4
           replace hx103_5 := (HB.out.cell (World.block_lt_of_cell? w _ hx103_5)).trans hx103_5
           replace hx103_6 := (HB.out.cell (World.block_lt_of_cell? w _ hx103_6)).trans hx103_6
           replace hx103_7 := (HB.out.cell (World.block_lt_of_cell? w _ hx103_7)).trans hx103_7
           replace hx103_8 := (HB.out.cell (World.block_lt_of_cell? w _ hx103_8)).trans hx103_8
           replace hx103_9 := (HB.out.cell (World.block_lt_of_cell? w _ hx103_9)).trans hx103_9
           replace hx103_10 := (HB.out.cell (World.block_lt_of_cell? w _ hx103_10)).trans hx103_10
           replace p103 := eq_true p103
           replace q103 := eq_true q103
           go_wp2_with (first | ((with_reducible refine gate_dst (N := 5) rfl ?_); (try (refine gate_guard (by rfl) ?_; dsimp only)); refine box_event ?hg (N := 5) ?hd (cs := #[.int .i64 0, .int .i64 0, .int .i64 0, .int .i64 0, .int .i64 0, .int .i64 0, .int .i64 0, .int .i64 0, .int .i64 0, .int .i64 0, .int .i64 0]) (t := 46) ?hr ?_; (case hd => rfl); (case hg => rfl); (case hr => first | (go_simp; done) | (go_simp; rfl)); intro gb104 hg w31 hbox hb; have n0_ := am (blk_below (bA BK101.out) hb); have n1_ := am (below_step (bB HB.out) hb); have n2_ := am (hbox); have n3_ := am ((by rw [hg]; exact (below_size (bB HB.out)) : w.heap.size ≤ gb104)); have n4_ := am ((by rw [hg]; exact (below_size (bB HB.out)) : w.heap.size ≤ gb104)); have n5_ := am ((by rw [hg]; exact Nat.ne_of_lt (blk_lt (g := gb101) (o := .cells #[.int .i64 a0_0, .slice (some ad103) l0_1.length c0_1, .slice A0_2 l0_2.length c0_2] 35 (0, 0)) (bA BK101.out)) : gb101 ≠ gb104)); have n6_ := am ((by rw [hg]; exact Nat.ne_of_gt (blk_lt (g := gb101) (o := .cells #[.int .i64 a0_0, .slice (some ad103) l0_1.length c0_1, .slice A0_2 l0_2.length c0_2] 35 (0, 0)) (bA BK101.out)) : gb104 ≠ gb101)); clear BK101; clear HB; have BK101 := n0_; have HB := n1_; have BK104 := n2_; have GW104 := n3_; have GE104 := n4_; have NB101_104 := n5_; have NB104_101 := n6_; clear n0_ n1_ n2_ n3_ n4_ n5_ n6_; clear hb hbox hg; have hnb32 := NB104_101.out; have hnc32 := NB101_104.out; have hcz33_0 : w31.cell? ⟨gb104, 0, none⟩ = some (.int .i64 0) := (blk_cell BK104.out 0).trans rfl; have hcz33_1 : w31.cell? ⟨gb104, 1, none⟩ = some (.int .i64 0) := (blk_cell BK104.out 1).trans rfl; have hcz33_2 : w31.cell? ⟨gb104, 2, none⟩ = some (.int .i64 0) := (blk_cell BK104.out 2).trans rfl; have hcz33_3 : w31.cell? ⟨gb104, 3, none⟩ = some (.int .i64 0) := (blk_cell BK104.out 3).trans rfl; have hcz33_4 : w31.cell? ⟨gb104, 4, none⟩ = some (.int .i64 0) := (blk_cell BK104.out 4).trans rfl; have hcz33_5 : w31.cell? ⟨gb104, 5, none⟩ = some (.int .i64 0) := (blk_cell BK104.out 5).trans rfl; have hcz33_6 : w31.cell? ⟨gb104, 6, none⟩ = some (.int .i64 0) := (blk_cell BK104.out 6).trans rfl; have hcz33_7 : w31.cell? ⟨gb104, 7, none⟩ = some (.int .i64 0) := (blk_cell BK104.out 7).trans rfl; have hcz33_8 : w31.cell? ⟨gb104, 8, none⟩ = some (.int .i64 0) := (blk_cell BK104.out 8).trans rfl; have hcz33_9 : w31.cell? ⟨gb104, 9, none⟩ = some (.int .i64 0) := (blk_cell BK104.out 9).trans rfl; have hcz33_10 : w31.cell? ⟨gb104, 10, none⟩ = some (.int .i64 0) := (blk_cell BK104.out 10).trans rfl; have hfz33_0 := blk_frozen BK104.out 0; have hfz33_1 := blk_frozen BK104.out 1; have hfz33_2 := blk_frozen BK104.out 2; have hfz33_3 := blk_frozen BK104.out 3; have hfz33_4 := blk_frozen BK104.out 4; have hfz33_5 := blk_frozen BK104.out 5; have hfz33_6 := blk_frozen BK104.out 6; have hfz33_7 := blk_frozen BK104.out 7; have hfz33_8 := blk_frozen BK104.out 8; have hfz33_9 := blk_frozen BK104.out 9; have hfz33_10 := blk_frozen BK104.out 10) | ((with_reducible refine gate_callee (f := 56) rfl ?_); refine goesL_ (some 37) rfl rfl Try.func56 (by kernel_rfl) rfl #[.agg #[.int .i64 ((rd_T46 l0_1 x30_2).f0.f0), .int .i64 ((rd_T46 l0_1 x30_2).f0.f1), .int .i64 ((rd_T46 l0_1 x30_2).f0.f2), .int .i64 ((rd_T46 l0_1 x30_2).f0.f3), .int .i64 ((rd_T46 l0_1 x30_2).f0.f4), .int .i64 ((rd_T46 l0_1 x30_2).f0.f5), .int .i64 ((rd_T46 l0_1 x30_2).f0.f6), .int .i64 ((rd_T46 l0_1 x30_2).f0.f7), .int .i64 ((rd_T46 l0_1 x30_2).f0.f8)]] rfl bE ?_; (with_reducible refine (spec_IsTable.calls ((rd_T46 l0_1 x30_2).f0.f0) ((rd_T46 l0_1 x30_2).f0.f1) ((rd_T46 l0_1 x30_2).f0.f2) ((rd_T46 l0_1 x30_2).f0.f3) ((rd_T46 l0_1 x30_2).f0.f4) ((rd_T46 l0_1 x30_2).f0.f5) ((rd_T46 l0_1 x30_2).f0.f6) ((rd_T46 l0_1 x30_2).f0.f7) ((rd_T46 l0_1 x30_2).f0.f8) true _ A15.out).mono ?_); rintro e w34 ⟨rfl, hb⟩; refine ⟨_, rfl, ?_⟩; have n0_ := am (blk_below (g := gb101) (o := .cells #[.int .i64 a0_0, .slice (some ad103) l0_1.length c0_1, .slice A0_2 l0_2.length c0_2] 35 (0, 0)) (by (with_reducible repeat (first | refine blk_drewN ?_ _ | refine blk_drew ?_ | refine blk_alloc ?_ _)); refine blk_far ?_ NB101_104.out _; (with_reducible repeat (first | refine blk_drewN ?_ _ | refine blk_drew ?_ | refine blk_alloc ?_ _)); refine blk_far ?_ NB101_104.out _; (with_reducible repeat (first | refine blk_drewN ?_ _ | refine blk_drew ?_ | refine blk_alloc ?_ _)); refine blk_far ?_ NB101_104.out _; (with_reducible repeat (first | refine blk_drewN ?_ _ | refine blk_drew ?_ | refine blk_alloc ?_ _)); refine blk_far ?_ NB101_104.out _; (with_reducible repeat (first | refine blk_drewN ?_ _ | refine blk_drew ?_ | refine blk_alloc ?_ _)); refine blk_far ?_ NB101_104.out _; (with_reducible repeat (first | refine blk_drewN ?_ _ | refine blk_drew ?_ | refine blk_alloc ?_ _)); refine blk_far ?_ NB101_104.out _; (with_reducible repeat (first | refine blk_drewN ?_ _ | refine blk_drew ?_ | refine blk_alloc ?_ _)); refine blk_far ?_ NB101_104.out _; (with_reducible repeat (first | refine blk_drewN ?_ _ | refine blk_drew ?_ | refine blk_alloc ?_ _)); refine blk_far ?_ NB101_104.out _; (with_reducible repeat (first | refine blk_drewN ?_ _ | refine blk_drew ?_ | refine blk_alloc ?_ _)); refine blk_far ?_ NB101_104.out _; (with_reducible repeat (first | refine blk_drewN ?_ _ | refine blk_drew ?_ | refine blk_alloc ?_ _)); refine blk_far ?_ NB101_104.out _; (with_reducible repeat (first | refine blk_drewN ?_ _ | refine blk_drew ?_ | refine blk_alloc ?_ _)); refine blk_far ?_ NB101_104.out _; (with_reducible repeat (first | refine blk_drewN ?_ _ | refine blk_drew ?_ | refine blk_alloc ?_ _)); exact BK101.out) hb); have n1_ := am (blk_below (g := gb104) (o := .cells #[.int .i64 ((rd_T46 l0_1 x30_2).f0.f0), .int .i64 ((rd_T46 l0_1 x30_2).f0.f1), .int .i64 ((rd_T46 l0_1 x30_2).f0.f2), .int .i64 ((rd_T46 l0_1 x30_2).f0.f3), .int .i64 ((rd_T46 l0_1 x30_2).f0.f4), .int .i64 ((rd_T46 l0_1 x30_2).f0.f5), .int .i64 ((rd_T46 l0_1 x30_2).f0.f6), .int .i64 ((rd_T46 l0_1 x30_2).f0.f7), .int .i64 ((rd_T46 l0_1 x30_2).f0.f8), .int .i64 ((rd_T46 l0_1 x30_2).f1), .int .i64 ((rd_T46 l0_1 x30_2).f2)] 46 (0, 0)) (by (with_reducible repeat (first | refine blk_drewN ?_ _ | refine blk_drew ?_ | refine blk_alloc ?_ _)); refine blk_put (cs := #[.int .i64 ((rd_T46 l0_1 x30_2).f0.f0), .int .i64 ((rd_T46 l0_1 x30_2).f0.f1), .int .i64 ((rd_T46 l0_1 x30_2).f0.f2), .int .i64 ((rd_T46 l0_1 x30_2).f0.f3), .int .i64 ((rd_T46 l0_1 x30_2).f0.f4), .int .i64 ((rd_T46 l0_1 x30_2).f0.f5), .int .i64 ((rd_T46 l0_1 x30_2).f0.f6), .int .i64 ((rd_T46 l0_1 x30_2).f0.f7), .int .i64 ((rd_T46 l0_1 x30_2).f0.f8), .int .i64 ((rd_T46 l0_1 x30_2).f1), .int .i64 0]) ?_ 10 _ rfl; (with_reducible repeat (first | refine blk_drewN ?_ _ | refine blk_drew ?_ | refine blk_alloc ?_ _)); refine blk_put (cs := #[.int .i64 ((rd_T46 l0_1 x30_2).f0.f0), .int .i64 ((rd_T46 l0_1 x30_2).f0.f1), .int .i64 ((rd_T46 l0_1 x30_2).f0.f2), .int .i64 ((rd_T46 l0_1 x30_2).f0.f3), .int .i64 ((rd_T46 l0_1 x30_2).f0.f4), .int .i64 ((rd_T46 l0_1 x30_2).f0.f5), .int .i64 ((rd_T46 l0_1 x30_2).f0.f6), .int .i64 ((rd_T46 l0_1 x30_2).f0.f7), .int .i64 ((rd_T46 l0_1 x30_2).f0.f8), .int .i64 0, .int .i64 0]) ?_ 9 _ rfl; (with_reducible repeat (first | refine blk_drewN ?_ _ | refine blk_drew ?_ | refine blk_alloc ?_ _)); refine blk_put (cs := #[.int .i64 ((rd_T46 l0_1 x30_2).f0.f0), .int .i64 ((rd_T46 l0_1 x30_2).f0.f1), .int .i64 ((rd_T46 l0_1 x30_2).f0.f2), .int .i64 ((rd_T46 l0_1 x30_2).f0.f3), .int .i64 ((rd_T46 l0_1 x30_2).f0.f4), .int .i64 ((rd_T46 l0_1 x30_2).f0.f5), .int .i64 ((rd_T46 l0_1 x30_2).f0.f6), .int .i64 ((rd_T46 l0_1 x30_2).f0.f7), .int .i64 0, .int .i64 0, .int .i64 0]) ?_ 8 _ rfl; (with_reducible repeat (first | refine blk_drewN ?_ _ | refine blk_drew ?_ | refine blk_alloc ?_ _)); refine blk_put (cs := #[.int .i64 ((rd_T46 l0_1 x30_2).f0.f0), .int .i64 ((rd_T46 l0_1 x30_2).f0.f1), .int .i64 ((rd_T46 l0_1 x30_2).f0.f2), .int .i64 ((rd_T46 l0_1 x30_2).f0.f3), .int .i64 ((rd_T46 l0_1 x30_2).f0.f4), .int .i64 ((rd_T46 l0_1 x30_2).f0.f5), .int .i64 ((rd_T46 l0_1 x30_2).f0.f6), .int .i64 0, .int .i64 0, .int .i64 0, .int .i64 0]) ?_ 7 _ rfl; (with_reducible repeat (first | refine blk_drewN ?_ _ | refine blk_drew ?_ | refine blk_alloc ?_ _)); refine blk_put (cs := #[.int .i64 ((rd_T46 l0_1 x30_2).f0.f0), .int .i64 ((rd_T46 l0_1 x30_2).f0.f1), .int .i64 ((rd_T46 l0_1 x30_2).f0.f2), .int .i64 ((rd_T46 l0_1 x30_2).f0.f3), .int .i64 ((rd_T46 l0_1 x30_2).f0.f4), .int .i64 ((rd_T46 l0_1 x30_2).f0.f5), .int .i64 0, .int .i64 0, .int .i64 0, .int .i64 0, .int .i64 0]) ?_ 6 _ rfl; (with_reducible repeat (first | refine blk_drewN ?_ _ | refine blk_drew ?_ | refine blk_alloc ?_ _)); refine blk_put (cs := #[.int .i64 ((rd_T46 l0_1 x30_2).f0.f0), .int .i64 ((rd_T46 l0_1 x30_2).f0.f1), .int .i64 ((rd_T46 l0_1 x30_2).f0.f2), .int .i64 ((rd_T46 l0_1 x30_2).f0.f3), .int .i64 ((rd_T46 l0_1 x30_2).f0.f4), .int .i64 0, .int .i64 0, .int .i64 0, .int .i64 0, .int .i64 0, .int .i64 0]) ?_ 5 _ rfl; (with_reducible repeat (first | refine blk_drewN ?_ _ | refine blk_drew ?_ | refine blk_alloc ?_ _)); refine blk_put (cs := #[.int .i64 ((rd_T46 l0_1 x30_2).f0.f0), .int .i64 ((rd_T46 l0_1 x30_2).f0.f1), .int .i64 ((rd_T46 l0_1 x30_2).f0.f2), .int .i64 ((rd_T46 l0_1 x30_2).f0.f3), .int .i64 0, .int .i64 0, .int .i64 0, .int .i64 0, .int .i64 0, .int .i64 0, .int .i64 0]) ?_ 4 _ rfl; (with_reducible repeat (first | refine blk_drewN ?_ _ | refine blk_drew ?_ | refine blk_alloc ?_ _)); refine blk_put (cs := #[.int .i64 ((rd_T46 l0_1 x30_2).f0.f0), .int .i64 ((rd_T46 l0_1 x30_2).f0.f1), .int .i64 ((rd_T46 l0_1 x30_2).f0.f2), .int .i64 0, .int .i64 0, .int .i64 0, .int .i64 0, .int .i64 0, .int .i64 0, .int .i64 0, .int .i64 0]) ?_ 3 _ rfl; (with_reducible repeat (first | refine blk_drewN ?_ _ | refine blk_drew ?_ | refine blk_alloc ?_ _)); refine blk_put (cs := #[.int .i64 ((rd_T46 l0_1 x30_2).f0.f0), .int .i64 ((rd_T46 l0_1 x30_2).f0.f1), .int .i64 0, .int .i64 0, .int .i64 0, .int .i64 0, .int .i64 0, .int .i64 0, .int .i64 0, .int .i64 0, .int .i64 0]) ?_ 2 _ rfl; (with_reducible repeat (first | refine blk_drewN ?_ _ | refine blk_drew ?_ | refine blk_alloc ?_ _)); refine blk_put (cs := #[.int .i64 ((rd_T46 l0_1 x30_2).f0.f0), .int .i64 0, .int .i64 0, .int .i64 0, .int .i64 0, .int .i64 0, .int .i64 0, .int .i64 0, .int .i64 0, .int .i64 0, .int .i64 0]) ?_ 1 _ rfl; (with_reducible repeat (first | refine blk_drewN ?_ _ | refine blk_drew ?_ | refine blk_alloc ?_ _)); refine blk_put (cs := #[.int .i64 0, .int .i64 0, .int .i64 0, .int .i64 0, .int .i64 0, .int .i64 0, .int .i64 0, .int .i64 0, .int .i64 0, .int .i64 0, .int .i64 0]) ?_ 0 _ rfl; (with_reducible repeat (first | refine blk_drewN ?_ _ | refine blk_drew ?_ | refine blk_alloc ?_ _)); exact BK104.out) hb); have n2_ := am (below_step (bB HB.out) hb); clear BK101; clear BK104; clear HB; have BK101 := n0_; have BK104 := n1_; have HB := n2_; clear n0_ n1_ n2_; (try clear hb); (try clear hb2); (try clear hk); (try clear hi); have hcz35_0 : w34.cell? ⟨gb104, 0, none⟩ = some (.int .i64 ((rd_T46 l0_1 x30_2).f0.f0)) := (blk_cell BK104.out 0).trans rfl; have hcz35_1 : w34.cell? ⟨gb104, 1, none⟩ = some (.int .i64 ((rd_T46 l0_1 x30_2).f0.f1)) := (blk_cell BK104.out 1).trans rfl; have hcz35_2 : w34.cell? ⟨gb104, 2, none⟩ = some (.int .i64 ((rd_T46 l0_1 x30_2).f0.f2)) := (blk_cell BK104.out 2).trans rfl; have hcz35_3 : w34.cell? ⟨gb104, 3, none⟩ = some (.int .i64 ((rd_T46 l0_1 x30_2).f0.f3)) := (blk_cell BK104.out 3).trans rfl; have hcz35_4 : w34.cell? ⟨gb104, 4, none⟩ = some (.int .i64 ((rd_T46 l0_1 x30_2).f0.f4)) := (blk_cell BK104.out 4).trans rfl; have hcz35_5 : w34.cell? ⟨gb104, 5, none⟩ = some (.int .i64 ((rd_T46 l0_1 x30_2).f0.f5)) := (blk_cell BK104.out 5).trans rfl; have hcz35_6 : w34.cell? ⟨gb104, 6, none⟩ = some (.int .i64 ((rd_T46 l0_1 x30_2).f0.f6)) := (blk_cell BK104.out 6).trans rfl; have hcz35_7 : w34.cell? ⟨gb104, 7, none⟩ = some (.int .i64 ((rd_T46 l0_1 x30_2).f0.f7)) := (blk_cell BK104.out 7).trans rfl; have hcz35_8 : w34.cell? ⟨gb104, 8, none⟩ = some (.int .i64 ((rd_T46 l0_1 x30_2).f0.f8)) := (blk_cell BK104.out 8).trans rfl; have hcz35_9 : w34.cell? ⟨gb104, 9, none⟩ = some (.int .i64 ((rd_T46 l0_1 x30_2).f1)) := (blk_cell BK104.out 9).trans rfl; have hcz35_10 : w34.cell? ⟨gb104, 10, none⟩ = some (.int .i64 ((rd_T46 l0_1 x30_2).f2)) := (blk_cell BK104.out 10).trans rfl; have hfz35_0 := blk_frozen BK104.out 0; have hfz35_1 := blk_frozen BK104.out 1; have hfz35_2 := blk_frozen BK104.out 2; have hfz35_3 := blk_frozen BK104.out 3; have hfz35_4 := blk_frozen BK104.out 4; have hfz35_5 := blk_frozen BK104.out 5; have hfz35_6 := blk_frozen BK104.out 6; have hfz35_7 := blk_frozen BK104.out 7; have hfz35_8 := blk_frozen BK104.out 8; have hfz35_9 := blk_frozen BK104.out 9; have hfz35_10 := blk_frozen BK104.out 10) | (go_at_call 55; (with_reducible refine (spec_l1In.calls ((rd_T46 l0_1 x30_2).f1) 0 (wrap64 ((wrap64 ((wrap64 (3 + a0_0)) + x30_2)) - 1)) false _ A17.out).mono ?_); rintro e w' ⟨rfl, ⟨nd, rfl⟩⟩))
           go_ret
           exact ⟨by first | rfl | (simp [errW_none, errW_some] <;> rfl) | (simp [*, errW_none, errW_some] <;> rfl), bB HB.out⟩
         ·replace c16 := Bool.eq_false_iff.mpr c16
          subst c16
          have H1 : (some false) = some r := by rw [if_neg (show ¬ (false = true) by decide)] at H; exact H
          clear H; have H := H1; clear H1
          obtain rfl := Option.some.inj H
          have p103 : 0 ≤ (x30_2 : Int) := of_decide_eq_true (by first | with_reducible assumption | assumption)
          have q103 : x30_2 < (l0_1.length : Int) := of_decide_eq_true (by first | with_reducible assumption | assumption)
          obtain ⟨ad103, e103, hx103_0, hx103_1, hx103_2, hx103_3, hx103_4, hx103_5, hx103_6, hx103_7, hx103_8, hx103_9, hx103_10⟩ := at_T46 HR0_1.out x30_2 p103 q103
          cases e103
          replace hx103_0 := (HB.out.cell (World.block_lt_of_cell? w _ hx103_0)).trans hx103_0
          replace hx103_1 := (HB.out.cell (World.block_lt_of_cell? w _ hx103_1)).trans hx103_1
          replace hx103_2 := (HB.out.cell (World.block_lt_of_cell? w _ hx103_2)).trans hx103_2
          replace hx103_3 := (HB.out.cell (World.block_lt_of_cell? w _ hx103_3)).trans hx103_3
          replace hx103_4 := (HB.out.cell (World.block_lt_of_cell? w _ hx103_4)).trans hx103_4
          replace hx103_5 := (HB.out.cell (World.block_lt_of_cell? w _ hx103_5)).trans hx103_5
          replace hx103_6 := (HB.out.cell (World.block_lt_of_cell? w _ hx103_6)).trans hx103_6
          replace hx103_7 := (HB.out.cell (World.block_lt_of_cell? w _ hx103_7)).trans hx103_7
          replace hx103_8 := (HB.out.cell (World.block_lt_of_cell? w _ hx103_8)).trans hx103_8
          replace hx103_9 := (HB.out.cell (World.block_lt_of_cell? w _ hx103_9)).trans hx103_9
          replace hx103_10 := (HB.out.cell (World.block_lt_of_cell? w _ hx103_10)).trans hx103_10
          replace p103 := eq_true p103
          replace q103 := eq_true q103
          go_wp2_with (first | ((with_reducible refine gate_dst (N := 5) rfl ?_); (try (refine gate_guard (by rfl) ?_; dsimp only)); refine box_event ?hg (N := 5) ?hd (cs := #[.int .i64 0, .int .i64 0, .int .i64 0, .int .i64 0, .int .i64 0, .int .i64 0, .int .i64 0, .int .i64 0, .int .i64 0, .int .i64 0, .int .i64 0]) (t := 46) ?hr ?_; (case hd => rfl); (case hg => rfl); (case hr => first | (go_simp; done) | (go_simp; rfl)); intro gb104 hg w36 hbox hb; have n0_ := am (blk_below (bA BK101.out) hb); have n1_ := am (below_step (bB HB.out) hb); have n2_ := am (hbox); have n3_ := am ((by rw [hg]; exact (below_size (bB HB.out)) : w.heap.size ≤ gb104)); have n4_ := am ((by rw [hg]; exact (below_size (bB HB.out)) : w.heap.size ≤ gb104)); have n5_ := am ((by rw [hg]; exact Nat.ne_of_lt (blk_lt (g := gb101) (o := .cells #[.int .i64 a0_0, .slice (some ad103) l0_1.length c0_1, .slice A0_2 l0_2.length c0_2] 35 (0, 0)) (bA BK101.out)) : gb101 ≠ gb104)); have n6_ := am ((by rw [hg]; exact Nat.ne_of_gt (blk_lt (g := gb101) (o := .cells #[.int .i64 a0_0, .slice (some ad103) l0_1.length c0_1, .slice A0_2 l0_2.length c0_2] 35 (0, 0)) (bA BK101.out)) : gb104 ≠ gb101)); clear BK101; clear HB; have BK101 := n0_; have HB := n1_; have BK104 := n2_; have GW104 := n3_; have GE104 := n4_; have NB101_104 := n5_; have NB104_101 := n6_; clear n0_ n1_ n2_ n3_ n4_ n5_ n6_; clear hb hbox hg; have hnb37 := NB104_101.out; have hnc37 := NB101_104.out; have hcz38_0 : w36.cell? ⟨gb104, 0, none⟩ = some (.int .i64 0) := (blk_cell BK104.out 0).trans rfl; have hcz38_1 : w36.cell? ⟨gb104, 1, none⟩ = some (.int .i64 0) := (blk_cell BK104.out 1).trans rfl; have hcz38_2 : w36.cell? ⟨gb104, 2, none⟩ = some (.int .i64 0) := (blk_cell BK104.out 2).trans rfl; have hcz38_3 : w36.cell? ⟨gb104, 3, none⟩ = some (.int .i64 0) := (blk_cell BK104.out 3).trans rfl; have hcz38_4 : w36.cell? ⟨gb104, 4, none⟩ = some (.int .i64 0) := (blk_cell BK104.out 4).trans rfl; have hcz38_5 : w36.cell? ⟨gb104, 5, none⟩ = some (.int .i64 0) := (blk_cell BK104.out 5).trans rfl; have hcz38_6 : w36.cell? ⟨gb104, 6, none⟩ = some (.int .i64 0) := (blk_cell BK104.out 6).trans rfl; have hcz38_7 : w36.cell? ⟨gb104, 7, none⟩ = some (.int .i64 0) := (blk_cell BK104.out 7).trans rfl; have hcz38_8 : w36.cell? ⟨gb104, 8, none⟩ = some (.int .i64 0) := (blk_cell BK104.out 8).trans rfl; have hcz38_9 : w36.cell? ⟨gb104, 9, none⟩ = some (.int .i64 0) := (blk_cell BK104.out 9).trans rfl; have hcz38_10 : w36.cell? ⟨gb104, 10, none⟩ = some (.int .i64 0) := (blk_cell BK104.out 10).trans rfl; have hfz38_0 := blk_frozen BK104.out 0; have hfz38_1 := blk_frozen BK104.out 1; have hfz38_2 := blk_frozen BK104.out 2; have hfz38_3 := blk_frozen BK104.out 3; have hfz38_4 := blk_frozen BK104.out 4; have hfz38_5 := blk_frozen BK104.out 5; have hfz38_6 := blk_frozen BK104.out 6; have hfz38_7 := blk_frozen BK104.out 7; have hfz38_8 := blk_frozen BK104.out 8; have hfz38_9 := blk_frozen BK104.out 9; have hfz38_10 := blk_frozen BK104.out 10) | ((with_reducible refine gate_callee (f := 56) rfl ?_); refine goesL_ (some 37) rfl rfl Try.func56 (by kernel_rfl) rfl #[.agg #[.int .i64 ((rd_T46 l0_1 x30_2).f0.f0), .int .i64 ((rd_T46 l0_1 x30_2).f0.f1), .int .i64 ((rd_T46 l0_1 x30_2).f0.f2), .int .i64 ((rd_T46 l0_1 x30_2).f0.f3), .int .i64 ((rd_T46 l0_1 x30_2).f0.f4), .int .i64 ((rd_T46 l0_1 x30_2).f0.f5), .int .i64 ((rd_T46 l0_1 x30_2).f0.f6), .int .i64 ((rd_T46 l0_1 x30_2).f0.f7), .int .i64 ((rd_T46 l0_1 x30_2).f0.f8)]] rfl bE ?_; (with_reducible refine (spec_IsTable.calls ((rd_T46 l0_1 x30_2).f0.f0) ((rd_T46 l0_1 x30_2).f0.f1) ((rd_T46 l0_1 x30_2).f0.f2) ((rd_T46 l0_1 x30_2).f0.f3) ((rd_T46 l0_1 x30_2).f0.f4) ((rd_T46 l0_1 x30_2).f0.f5) ((rd_T46 l0_1 x30_2).f0.f6) ((rd_T46 l0_1 x30_2).f0.f7) ((rd_T46 l0_1 x30_2).f0.f8) false _ A15.out).mono ?_); rintro e w39 ⟨rfl, hb⟩; refine ⟨_, rfl, ?_⟩; have n0_ := am (blk_below (g := gb101) (o := .cells #[.int .i64 a0_0, .slice (some ad103) l0_1.length c0_1, .slice A0_2 l0_2.length c0_2] 35 (0, 0)) (by (with_reducible repeat (first | refine blk_drewN ?_ _ | refine blk_drew ?_ | refine blk_alloc ?_ _)); refine blk_far ?_ NB101_104.out _; (with_reducible repeat (first | refine blk_drewN ?_ _ | refine blk_drew ?_ | refine blk_alloc ?_ _)); refine blk_far ?_ NB101_104.out _; (with_reducible repeat (first | refine blk_drewN ?_ _ | refine blk_drew ?_ | refine blk_alloc ?_ _)); refine blk_far ?_ NB101_104.out _; (with_reducible repeat (first | refine blk_drewN ?_ _ | refine blk_drew ?_ | refine blk_alloc ?_ _)); refine blk_far ?_ NB101_104.out _; (with_reducible repeat (first | refine blk_drewN ?_ _ | refine blk_drew ?_ | refine blk_alloc ?_ _)); refine blk_far ?_ NB101_104.out _; (with_reducible repeat (first | refine blk_drewN ?_ _ | refine blk_drew ?_ | refine blk_alloc ?_ _)); refine blk_far ?_ NB101_104.out _; (with_reducible repeat (first | refine blk_drewN ?_ _ | refine blk_drew ?_ | refine blk_alloc ?_ _)); refine blk_far ?_ NB101_104.out _; (with_reducible repeat (first | refine blk_drewN ?_ _ | refine blk_drew ?_ | refine blk_alloc ?_ _)); refine blk_far ?_ NB101_104.out _; (with_reducible repeat (first | refine blk_drewN ?_ _ | refine blk_drew ?_ | refine blk_alloc ?_ _)); refine blk_far ?_ NB101_104.out _; (with_reducible repeat (first | refine blk_drewN ?_ _ | refine blk_drew ?_ | refine blk_alloc ?_ _)); refine blk_far ?_ NB101_104.out _; (with_reducible repeat (first | refine blk_drewN ?_ _ | refine blk_drew ?_ | refine blk_alloc ?_ _)); refine blk_far ?_ NB101_104.out _; (with_reducible repeat (first | refine blk_drewN ?_ _ | refine blk_drew ?_ | refine blk_alloc ?_ _)); exact BK101.out) hb); have n1_ := am (blk_below (g := gb104) (o := .cells #[.int .i64 ((rd_T46 l0_1 x30_2).f0.f0), .int .i64 ((rd_T46 l0_1 x30_2).f0.f1), .int .i64 ((rd_T46 l0_1 x30_2).f0.f2), .int .i64 ((rd_T46 l0_1 x30_2).f0.f3), .int .i64 ((rd_T46 l0_1 x30_2).f0.f4), .int .i64 ((rd_T46 l0_1 x30_2).f0.f5), .int .i64 ((rd_T46 l0_1 x30_2).f0.f6), .int .i64 ((rd_T46 l0_1 x30_2).f0.f7), .int .i64 ((rd_T46 l0_1 x30_2).f0.f8), .int .i64 ((rd_T46 l0_1 x30_2).f1), .int .i64 ((rd_T46 l0_1 x30_2).f2)] 46 (0, 0)) (by (with_reducible repeat (first | refine blk_drewN ?_ _ | refine blk_drew ?_ | refine blk_alloc ?_ _)); refine blk_put (cs := #[.int .i64 ((rd_T46 l0_1 x30_2).f0.f0), .int .i64 ((rd_T46 l0_1 x30_2).f0.f1), .int .i64 ((rd_T46 l0_1 x30_2).f0.f2), .int .i64 ((rd_T46 l0_1 x30_2).f0.f3), .int .i64 ((rd_T46 l0_1 x30_2).f0.f4), .int .i64 ((rd_T46 l0_1 x30_2).f0.f5), .int .i64 ((rd_T46 l0_1 x30_2).f0.f6), .int .i64 ((rd_T46 l0_1 x30_2).f0.f7), .int .i64 ((rd_T46 l0_1 x30_2).f0.f8), .int .i64 ((rd_T46 l0_1 x30_2).f1), .int .i64 0]) ?_ 10 _ rfl; (with_reducible repeat (first | refine blk_drewN ?_ _ | refine blk_drew ?_ | refine blk_alloc ?_ _)); refine blk_put (cs := #[.int .i64 ((rd_T46 l0_1 x30_2).f0.f0), .int .i64 ((rd_T46 l0_1 x30_2).f0.f1), .int .i64 ((rd_T46 l0_1 x30_2).f0.f2), .int .i64 ((rd_T46 l0_1 x30_2).f0.f3), .int .i64 ((rd_T46 l0_1 x30_2).f0.f4), .int .i64 ((rd_T46 l0_1 x30_2).f0.f5), .int .i64 ((rd_T46 l0_1 x30_2).f0.f6), .int .i64 ((rd_T46 l0_1 x30_2).f0.f7), .int .i64 ((rd_T46 l0_1 x30_2).f0.f8), .int .i64 0, .int .i64 0]) ?_ 9 _ rfl; (with_reducible repeat (first | refine blk_drewN ?_ _ | refine blk_drew ?_ | refine blk_alloc ?_ _)); refine blk_put (cs := #[.int .i64 ((rd_T46 l0_1 x30_2).f0.f0), .int .i64 ((rd_T46 l0_1 x30_2).f0.f1), .int .i64 ((rd_T46 l0_1 x30_2).f0.f2), .int .i64 ((rd_T46 l0_1 x30_2).f0.f3), .int .i64 ((rd_T46 l0_1 x30_2).f0.f4), .int .i64 ((rd_T46 l0_1 x30_2).f0.f5), .int .i64 ((rd_T46 l0_1 x30_2).f0.f6), .int .i64 ((rd_T46 l0_1 x30_2).f0.f7), .int .i64 0, .int .i64 0, .int .i64 0]) ?_ 8 _ rfl; (with_reducible repeat (first | refine blk_drewN ?_ _ | refine blk_drew ?_ | refine blk_alloc ?_ _)); refine blk_put (cs := #[.int .i64 ((rd_T46 l0_1 x30_2).f0.f0), .int .i64 ((rd_T46 l0_1 x30_2).f0.f1), .int .i64 ((rd_T46 l0_1 x30_2).f0.f2), .int .i64 ((rd_T46 l0_1 x30_2).f0.f3), .int .i64 ((rd_T46 l0_1 x30_2).f0.f4), .int .i64 ((rd_T46 l0_1 x30_2).f0.f5), .int .i64 ((rd_T46 l0_1 x30_2).f0.f6), .int .i64 0, .int .i64 0, .int .i64 0, .int .i64 0]) ?_ 7 _ rfl; (with_reducible repeat (first | refine blk_drewN ?_ _ | refine blk_drew ?_ | refine blk_alloc ?_ _)); refine blk_put (cs := #[.int .i64 ((rd_T46 l0_1 x30_2).f0.f0), .int .i64 ((rd_T46 l0_1 x30_2).f0.f1), .int .i64 ((rd_T46 l0_1 x30_2).f0.f2), .int .i64 ((rd_T46 l0_1 x30_2).f0.f3), .int .i64 ((rd_T46 l0_1 x30_2).f0.f4), .int .i64 ((rd_T46 l0_1 x30_2).f0.f5), .int .i64 0, .int .i64 0, .int .i64 0, .int .i64 0, .int .i64 0]) ?_ 6 _ rfl; (with_reducible repeat (first | refine blk_drewN ?_ _ | refine blk_drew ?_ | refine blk_alloc ?_ _)); refine blk_put (cs := #[.int .i64 ((rd_T46 l0_1 x30_2).f0.f0), .int .i64 ((rd_T46 l0_1 x30_2).f0.f1), .int .i64 ((rd_T46 l0_1 x30_2).f0.f2), .int .i64 ((rd_T46 l0_1 x30_2).f0.f3), .int .i64 ((rd_T46 l0_1 x30_2).f0.f4), .int .i64 0, .int .i64 0, .int .i64 0, .int .i64 0, .int .i64 0, .int .i64 0]) ?_ 5 _ rfl; (with_reducible repeat (first | refine blk_drewN ?_ _ | refine blk_drew ?_ | refine blk_alloc ?_ _)); refine blk_put (cs := #[.int .i64 ((rd_T46 l0_1 x30_2).f0.f0), .int .i64 ((rd_T46 l0_1 x30_2).f0.f1), .int .i64 ((rd_T46 l0_1 x30_2).f0.f2), .int .i64 ((rd_T46 l0_1 x30_2).f0.f3), .int .i64 0, .int .i64 0, .int .i64 0, .int .i64 0, .int .i64 0, .int .i64 0, .int .i64 0]) ?_ 4 _ rfl; (with_reducible repeat (first | refine blk_drewN ?_ _ | refine blk_drew ?_ | refine blk_alloc ?_ _)); refine blk_put (cs := #[.int .i64 ((rd_T46 l0_1 x30_2).f0.f0), .int .i64 ((rd_T46 l0_1 x30_2).f0.f1), .int .i64 ((rd_T46 l0_1 x30_2).f0.f2), .int .i64 0, .int .i64 0, .int .i64 0, .int .i64 0, .int .i64 0, .int .i64 0, .int .i64 0, .int .i64 0]) ?_ 3 _ rfl; (with_reducible repeat (first | refine blk_drewN ?_ _ | refine blk_drew ?_ | refine blk_alloc ?_ _)); refine blk_put (cs := #[.int .i64 ((rd_T46 l0_1 x30_2).f0.f0), .int .i64 ((rd_T46 l0_1 x30_2).f0.f1), .int .i64 0, .int .i64 0, .int .i64 0, .int .i64 0, .int .i64 0, .int .i64 0, .int .i64 0, .int .i64 0, .int .i64 0]) ?_ 2 _ rfl; (with_reducible repeat (first | refine blk_drewN ?_ _ | refine blk_drew ?_ | refine blk_alloc ?_ _)); refine blk_put (cs := #[.int .i64 ((rd_T46 l0_1 x30_2).f0.f0), .int .i64 0, .int .i64 0, .int .i64 0, .int .i64 0, .int .i64 0, .int .i64 0, .int .i64 0, .int .i64 0, .int .i64 0, .int .i64 0]) ?_ 1 _ rfl; (with_reducible repeat (first | refine blk_drewN ?_ _ | refine blk_drew ?_ | refine blk_alloc ?_ _)); refine blk_put (cs := #[.int .i64 0, .int .i64 0, .int .i64 0, .int .i64 0, .int .i64 0, .int .i64 0, .int .i64 0, .int .i64 0, .int .i64 0, .int .i64 0, .int .i64 0]) ?_ 0 _ rfl; (with_reducible repeat (first | refine blk_drewN ?_ _ | refine blk_drew ?_ | refine blk_alloc ?_ _)); exact BK104.out) hb); have n2_ := am (below_step (bB HB.out) hb); clear BK101; clear BK104; clear HB; have BK101 := n0_; have BK104 := n1_; have HB := n2_; clear n0_ n1_ n2_; (try clear hb); (try clear hb2); (try clear hk); (try clear hi)))
          go_ret
          exact ⟨by first | rfl | (simp [errW_none, errW_some] <;> rfl) | (simp [*, errW_none, errW_some] <;> rfl), bB HB.out⟩
        ·rw [if_neg c14] at H
         exact absurd H (by simp)
       ·rw [if_neg c13] at H
        exact absurd H (by simp)
      ·rw [if_neg c12] at H
       have c12b0 : decide (x30_2 < (l0_1.length : Int)) = false := decide_eq_false c12
       clear c12
       have H' := am H
       clear H
       have hcz40_0 : wr.cell? ⟨gb101, 0, none⟩ = some (.int .i64 a0_0) := (blk_cell BK101.out 0).trans rfl
       have hcz40_1 : wr.cell? ⟨gb101, 1, none⟩ = some (.slice A0_1 l0_1.length c0_1) := (blk_cell BK101.out 1).trans rfl
       have hcz40_2 : wr.cell? ⟨gb101, 2, none⟩ = some (.slice A0_2 l0_2.length c0_2) := (blk_cell BK101.out 2).trans rfl
       have hfz40_0 := blk_frozen BK101.out 0; have hfz40_1 := blk_frozen BK101.out 1; have hfz40_2 := blk_frozen BK101.out 2
       go_wp2
       go_loopg [63] k2 (fun kq v63 w' => ∃ (x63_3 : Int), v63 = .int .i64 x63_3 ∧ Aside0 (spec_IsCircuit.l1 kq (wrap64 (3 + a0_0)) l0_2 (l0_2.length : Int) x63_3 a0_0 l0_1 l0_2 = some r) ∧ Aside0 (kq ≤ k2) ∧ Aside0 (w'.heap[gb101]? = some (.cells #[.int .i64 a0_0, (.slice A0_1 l0_1.length c0_1), (.slice A0_2 l0_2.length c0_2)] 35 (0, 0))) ∧ Aside0 (Below w.heap.size w w'))
       case atStart => exact ⟨(0), (by first | rfl | (simp; done) | (simp [*]; done)), H', ⟨Nat.le_refl _⟩, ⟨bA BK101.out⟩, ⟨bB HB.out⟩⟩
       case round =>
        clear H'
        try clear c1
        try clear p1
        try clear q1
        try clear hx1
        try clear c2
        try clear p2
        try clear c3
        try clear c5
        try clear c6
        try clear c6b0
        try clear c6b1
        try clear p6
        try clear c10
        try clear p10
        try clear q10
        try clear hx10
        try clear c12
        try clear c12b0
        try clear c13
        try clear c13b0
        try clear c14
        try clear c14b0
        try clear c16
        try clear c18
        try clear c20
        try clear c22
        try clear c27
        try clear c32
        try clear c37
        try clear hcz11_0
        try clear hcz11_1
        try clear hcz11_2
        try clear hcz23_0
        try clear hcz23_1
        try clear hcz23_10
        try clear hcz23_2
        try clear hcz23_3
        try clear hcz23_4
        try clear hcz23_5
        try clear hcz23_6
        try clear hcz23_7
        try clear hcz23_8
        try clear hcz23_9
        try clear hcz25_0
        try clear hcz25_1
        try clear hcz25_10
        try clear hcz25_2
        try clear hcz25_3
        try clear hcz25_4
        try clear hcz25_5
        try clear hcz25_6
        try clear hcz25_7
        try clear hcz25_8
        try clear hcz25_9
        try clear hcz28_0
        try clear hcz28_1
        try clear hcz28_10
        try clear hcz28_2
        try clear hcz28_3
        try clear hcz28_4
        try clear hcz28_5
        try clear hcz28_6
        try clear hcz28_7
        try clear hcz28_8
        try clear hcz28_9
        try clear hcz30_0
        try clear hcz30_1
        try clear hcz30_10
        try clear hcz30_2
        try clear hcz30_3
        try clear hcz30_4
        try clear hcz30_5
        try clear hcz30_6
        try clear hcz30_7
        try clear hcz30_8
        try clear hcz30_9
        try clear hcz33_0
        try clear hcz33_1
        try clear hcz33_10
        try clear hcz33_2
        try clear hcz33_3
        try clear hcz33_4
        try clear hcz33_5
        try clear hcz33_6
        try clear hcz33_7
        try clear hcz33_8
        try clear hcz33_9
        try clear hcz35_0
        try clear hcz35_1
        try clear hcz35_10
        try clear hcz35_2
        try clear hcz35_3
        try clear hcz35_4
        try clear hcz35_5
        try clear hcz35_6
        try clear hcz35_7
        try clear hcz35_8
        try clear hcz35_9
        try clear hcz38_0
        try clear hcz38_1
        try clear hcz38_10
        try clear hcz38_2
        try clear hcz38_3
        try clear hcz38_4
        try clear hcz38_5
        try clear hcz38_6
        try clear hcz38_7
        try clear hcz38_8
        try clear hcz38_9
        try clear hcz40_0
        try clear hcz40_1
        try clear hcz40_2
        try clear hcz7_0
        try clear hcz7_1
        try clear hcz7_2
        try clear hcz8_0
        try clear hcz8_1
        try clear hcz8_2
        try clear hcz9_0
        try clear hcz9_1
        try clear hcz9_2
        try clear hfz11_0
        try clear hfz11_1
        try clear hfz11_2
        try clear hfz23_0
        try clear hfz23_1
        try clear hfz23_10
        try clear hfz23_2
        try clear hfz23_3
        try clear hfz23_4
        try clear hfz23_5
        try clear hfz23_6
        try clear hfz23_7
        try clear hfz23_8
        try clear hfz23_9
        try clear hfz25_0
        try clear hfz25_1
        try clear hfz25_10
        try clear hfz25_2
        try clear hfz25_3
        try clear hfz25_4
        try clear hfz25_5
        try clear hfz25_6
        try clear hfz25_7
        try clear hfz25_8
        try clear hfz25_9
        try clear hfz28_0
        try clear hfz28_1
        try clear hfz28_10
        try clear hfz28_2
        try clear hfz28_3
        try clear hfz28_4
        try clear hfz28_5
        try clear hfz28_6
        try clear hfz28_7
        try clear hfz28_8
        try clear hfz28_9
        try clear hfz30_0
        try clear hfz30_1
        try clear hfz30_10
        try clear hfz30_2
        try clear hfz30_3
        try clear hfz30_4
        try clear hfz30_5
        try clear hfz30_6
        try clear hfz30_7
        try clear hfz30_8
        try clear hfz30_9
        try clear hfz33_0
        try clear hfz33_1
        try clear hfz33_10
        try clear hfz33_2
        try clear hfz33_3
        try clear hfz33_4
        try clear hfz33_5
        try clear hfz33_6
        try clear hfz33_7
        try clear hfz33_8
        try clear hfz33_9
        try clear hfz35_0
        try clear hfz35_1
        try clear hfz35_10
        try clear hfz35_2
        try clear hfz35_3
        try clear hfz35_4
        try clear hfz35_5
        try clear hfz35_6
        try clear hfz35_7
        try clear hfz35_8
        try clear hfz35_9
        try clear hfz38_0
        try clear hfz38_1
        try clear hfz38_10
        try clear hfz38_2
        try clear hfz38_3
        try clear hfz38_4
        try clear hfz38_5
        try clear hfz38_6
        try clear hfz38_7
        try clear hfz38_8
        try clear hfz38_9
        try clear hfz40_0
        try clear hfz40_1
        try clear hfz40_2
        try clear hfz7_0
        try clear hfz7_1
        try clear hfz7_2
        try clear hfz8_0
        try clear hfz8_1
        try clear hfz8_2
        try clear hfz9_0
        try clear hfz9_1
        try clear hfz9_2
        try clear hx103_0
        try clear hx103_1
        try clear hx103_10
        try clear hx103_2
        try clear hx103_3
        try clear hx103_4
        try clear hx103_5
        try clear hx103_6
        try clear hx103_7
        try clear hx103_8
        try clear hx103_9
        try clear p103
        try clear p2
        try clear p6
        try clear q103
        obtain ⟨x63_3, rfl, HA, HK3, BK101, HB⟩ := hrel
        cases gk with
        | zero => exact absurd HA.out (by simp [spec_IsCircuit.l1])
        | succ k3 =>
         have H := HA.out; clear HA
         simp only [spec_IsCircuit.l1] at H
         by_cases c41 : x63_3 < (l0_2.length : Int)
         ·rw [if_pos c41] at H
          have c41b0 : decide (x63_3 < (l0_2.length : Int)) = true := decide_eq_true c41
          clear c41
          by_cases c42 : 0 ≤ x63_3
          ·rw [if_pos c42] at H
           have c42b0 : decide (0 ≤ x63_3) = true := decide_eq_true c42
           clear c42
           by_cases c43 : x63_3 < (l0_2.length : Int)
           ·rw [if_pos c43] at H
            have c43b0 : decide (x63_3 < (l0_2.length : Int)) = true := decide_eq_true c43
            clear c43
            replace H := Option.bind_eq_some_iff.mp H
            obtain ⟨t109, A440, H⟩ := H
            replace H : (if t109 = true then (spec_IsCircuit.l1 k3 (wrap64 (3 + a0_0)) l0_2 (l0_2.length : Int) (wrap64 (x63_3 + 1)) a0_0 l0_1 l0_2) else (some false)) = some r := H
            have A44 := am A440; clear A440
            by_cases c45 : t109 = true
            ·subst c45
             have H1 : (spec_IsCircuit.l1 k3 (wrap64 (3 + a0_0)) l0_2 (l0_2.length : Int) (wrap64 (x63_3 + 1)) a0_0 l0_1 l0_2) = some r := by rw [if_pos rfl] at H; exact H
             clear H; have H := H1; clear H1
             have H' := am H
             clear H
             have p108 : 0 ≤ (x63_3 : Int) := of_decide_eq_true (by first | with_reducible assumption | assumption)
             have q108 : x63_3 < (l0_2.length : Int) := of_decide_eq_true (by first | with_reducible assumption | assumption)
             obtain ⟨ad108, e108, hx108_0⟩ := Kd.at_int HR0_2.out x63_3 p108 q108
             cases e108
             replace hx108_0 := (HB.out.cell (World.block_lt_of_cell? w _ hx108_0)).trans hx108_0
             replace p108 := eq_true p108
             replace q108 := eq_true q108
             have hcz46_0 : wr.cell? ⟨gb101, 0, none⟩ = some (.int .i64 a0_0) := (blk_cell BK101.out 0).trans rfl
             have hcz46_1 : wr.cell? ⟨gb101, 1, none⟩ = some (.slice A0_1 l0_1.length c0_1) := (blk_cell BK101.out 1).trans rfl
             have hcz46_2 : wr.cell? ⟨gb101, 2, none⟩ = some (.slice (some ad108) l0_2.length c0_2) := (blk_cell BK101.out 2).trans rfl
             have hfz46_0 := blk_frozen BK101.out 0; have hfz46_1 := blk_frozen BK101.out 1; have hfz46_2 := blk_frozen BK101.out 2
             go_wp2_with (first | ((with_reducible refine gate_callee (f := 55) rfl ?_); refine goesL_ (some 74) rfl rfl Try.func55 (by kernel_rfl) rfl #[.int .i64 (rd l0_2 x63_3), .int .i64 0, .int .i64 (wrap64 ((wrap64 ((wrap64 (3 + a0_0)) + (l0_1.length : Int))) - 1))] rfl bE ?_; (with_reducible refine (spec_l1In.calls (rd l0_2 x63_3) 0 (wrap64 ((wrap64 ((wrap64 (3 + a0_0)) + (l0_1.length : Int))) - 1)) true _ A44.out).mono ?_); rintro e w' ⟨rfl, ⟨nd, rfl⟩⟩; refine ⟨_, rfl, ?_⟩))
             go_roundg k3
             case measure => have := HJ1.out; have := HK2.out; have := HK3.out; omega
             case rel => exact ⟨(wrap64 (x63_3 + 1)), (by first | rfl | (simp; done) | (simp [*]; done)), H', ⟨by have := HJ1.out; have := HK2.out; have := HK3.out; omega⟩, ⟨bA BK101.out⟩, ⟨bB HB.out⟩⟩
            ·replace c45 := Bool.eq_false_iff.mpr c45
             subst c45
             have H1 : (some false) = some r := by rw [if_neg (show ¬ (false = true) by decide)] at H; exact H
             clear H; have H := H1; clear H1
             obtain rfl := Option.some.inj H
             have p108 : 0 ≤ (x63_3 : Int) := of_decide_eq_true (by first | with_reducible assumption | assumption)
             have q108 : x63_3 < (l0_2.length : Int) := of_decide_eq_true (by first | with_reducible assumption | assumption)
             obtain ⟨ad108, e108, hx108_0⟩ := Kd.at_int HR0_2.out x63_3 p108 q108
             cases e108
             replace hx108_0 := (HB.out.cell (World.block_lt_of_cell? w _ hx108_0)).trans hx108_0
             replace p108 := eq_true p108
             replace q108 := eq_true q108
             have hcz47_0 : wr.cell? ⟨gb101, 0, none⟩ = some (.int .i64 a0_0) := (blk_cell BK101.out 0).trans rfl
             have hcz47_1 : wr.cell? ⟨gb101, 1, none⟩ = some (.slice A0_1 l0_1.length c0_1) := (blk_cell BK101.out 1).trans rfl
             have hcz47_2 : wr.cell? ⟨gb101, 2, none⟩ = some (.slice (some ad108) l0_2.length c0_2) := (blk_cell BK101.out 2).trans rfl
             have hfz47_0 := blk_frozen BK101.out 0; have hfz47_1 := blk_frozen BK101.out 1; have hfz47_2 := blk_frozen BK101.out 2
             go_wp2_with (first | ((with_reducible refine gate_callee (f := 55) rfl ?_); refine goesL_ (some 74) rfl rfl Try.func55 (by kernel_rfl) rfl #[.int .i64 (rd l0_2 x63_3), .int .i64 0, .int .i64 (wrap64 ((wrap64 ((wrap64 (3 + a0_0)) + (l0_1.length : Int))) - 1))] rfl bE ?_; (with_reducible refine (spec_l1In.calls (rd l0_2 x63_3) 0 (wrap64 ((wrap64 ((wrap64 (3 + a0_0)) + (l0_1.length : Int))) - 1)) false _ A44.out).mono ?_); rintro e w' ⟨rfl, ⟨nd, rfl⟩⟩; refine ⟨_, rfl, ?_⟩))
             go_ret
             exact ⟨by first | rfl | (simp [errW_none, errW_some] <;> rfl) | (simp [*, errW_none, errW_some] <;> rfl), bB HB.out⟩
           ·rw [if_neg c43] at H
            exact absurd H (by simp)
          ·rw [if_neg c42] at H
           exact absurd H (by simp)
         ·rw [if_neg c41] at H
          have c41b0 : decide (x63_3 < (l0_2.length : Int)) = false := decide_eq_false c41
          clear c41
          obtain rfl := Option.some.inj H
          go_wp2
          go_ret
          exact ⟨by first | rfl | (simp [errW_none, errW_some] <;> rfl) | (simp [*, errW_none, errW_some] <;> rfl), bB HB.out⟩

end Go.Proofs.Ytaopbkbjfmfcdaa.P
