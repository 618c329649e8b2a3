/- What functions of the program come to, each with the proof that it does, laid by a program of this session out of the translation; no condition is set on any claim. -/
import Derived.Test.YtaopbkbjfmfcdaaPSl0
import Derived.Test.YtaopbkbjfmfcdaaPSl3
namespace Go.Proofs.Ytaopbkbjfmfcdaa.P
open Go.RowKit Go.Proofs.YtaopbkbjfmfcdaaW.PrintWords Go.Proofs.YtaopbkbjfmfcdaaW.PrintLast Go.Proofs.YtaopbkbjfmfcdaaW.PrintMore
attribute [local go_sem] max2_int min2_int max_two min_two max_three min_three max_four min_four   -- for this text's walks alone
set_option linter.unusedVariables false
set_option linter.unusedSimpArgs false


theorem qa20 {α : Type} (l : List α) (i : Nat) (a : α) : l.toArray.setIfInBounds i a = (l.set i a).toArray := List.setIfInBounds_toArray ..
theorem qb20 {α : Type} (x a : α) (l : List α) : (x :: l).set 0 a = a :: l := rfl
theorem qc20 {α : Type} (x a : α) (l : List α) (n : Nat) : (x :: l).set (n + 1) a = x :: l.set n a := rfl
/-! ### impl_IsCircuit: function 20 -/
mutual
def impl_IsCircuit.j0 : Nat → Bool → Int → List (S46) → List Int → Option (Bool)
 | 0, _, _, _, _ => none
 | k + 1, x25, x102000, x102001, x102002 => if x25 = true then (some false) else (impl_IsCircuit.l0 k x102001 (x102001.length : Int) 0 x102000 x102001 x102002 (wrap64 (3 + x102000)))
def impl_IsCircuit.l0 : Nat → List (S46) → Int → Int → Int → List (S46) → List Int → Int → Option (Bool)
 | 0, _, _, _, _, _, _, _ => none
 | k + 1, x30, x31, x32, x102000, x102001, x102002, x103000 => if x32 < x31 then (if 0 ≤ x32 then (if x32 < (x30.length : Int) then ((impl_IsTable.f ((rd_T46 x30 x32).f0.f0) ((rd_T46 x30 x32).f0.f1) ((rd_T46 x30 x32).f0.f2) ((rd_T46 x30 x32).f0.f3) ((rd_T46 x30 x32).f0.f4) ((rd_T46 x30 x32).f0.f5) ((rd_T46 x30 x32).f0.f6) ((rd_T46 x30 x32).f0.f7) ((rd_T46 x30 x32).f0.f8)).bind fun t105 => (if t105 = true then (if ((rd_T46 x30 x32).f1) < 0 then (some false) else (if ((rd_T46 x30 x32).f1) ≥ x103000 then (some false) else (if ((rd_T46 x30 x32).f2) < 0 then (some false) else (if ((rd_T46 x30 x32).f2) ≥ x103000 then (some false) else (impl_IsCircuit.l0 k x30 x31 (wrap64 (x32 + 1)) x102000 x102001 x102002 (wrap64 (x103000 + 1))))))) else (some false))) else (none)) else (none)) else ((slices_ContainsFunc_int_int.f x102002 x103000).bind fun t106 => (some (!t106)))
end
def impl_IsCircuit.f (k : Nat) (a0_0 : Int) (l0_1 : List (S46)) (l0_2 : List Int) : Option (Bool) := if a0_0 < 0 then (impl_IsCircuit.j0 k true a0_0 l0_1 l0_2) else (if a0_0 > 8 then (impl_IsCircuit.j0 k true a0_0 l0_1 l0_2) else (if (l0_1.length : Int) > 60 then (impl_IsCircuit.j0 k true a0_0 l0_1 l0_2) else (impl_IsCircuit.j0 k (decide ((l0_2.length : Int) > 60)) a0_0 l0_1 l0_2)))
theorem impl_IsCircuit.mono_l : ∀ k, (∀ y0 y1 y2 y3, LeO (impl_IsCircuit.j0 k y0 y1 y2 y3) (impl_IsCircuit.j0 (k + 1) y0 y1 y2 y3)) ∧ (∀ y0 y1 y2 y3 y4 y5 y6, LeO (impl_IsCircuit.l0 k y0 y1 y2 y3 y4 y5 y6) (impl_IsCircuit.l0 (k + 1) y0 y1 y2 y3 y4 y5 y6))
 | 0 => ⟨fun _ _ _ _ r h => by simp [impl_IsCircuit.j0] at h, fun _ _ _ _ _ _ _ r h => by simp [impl_IsCircuit.l0] at h⟩
 | k + 1 => by
  obtain ⟨ih0, ih1⟩ := impl_IsCircuit.mono_l k
  refine ⟨?_, ?_⟩
  ·intro y0 y1 y2 y3
   unfold impl_IsCircuit.j0
   repeat' first
   | (with_reducible exact ih0 _ _ _ _)
   | (with_reducible exact ih1 _ _ _ _ _ _ _)
   | (with_reducible exact LeO.refl _)
   | (with_reducible exact LeO.none _)
   | (with_reducible refine LeO.ite ?_ ?_)
   | (with_reducible refine LeO.bind ?_ (fun _ => ?_))
   | exact ih0 _ _ _ _
   | exact ih1 _ _ _ _ _ _ _
   | exact LeO.none _
   | refine LeO.ite ?_ ?_
   | refine LeO.bind ?_ (fun _ => ?_)
  ·intro y0 y1 y2 y3 y4 y5 y6
   unfold impl_IsCircuit.l0
   repeat' first
   | (with_reducible exact ih0 _ _ _ _)
   | (with_reducible exact ih1 _ _ _ _ _ _ _)
   | (with_reducible exact LeO.refl _)
   | (with_reducible exact LeO.none _)
   | (with_reducible refine LeO.ite ?_ ?_)
   | (with_reducible refine LeO.bind ?_ (fun _ => ?_))
   | exact ih0 _ _ _ _
   | exact ih1 _ _ _ _ _ _ _
   | exact LeO.none _
   | refine LeO.ite ?_ ?_
   | refine LeO.bind ?_ (fun _ => ?_)
theorem impl_IsCircuit.mono : ∀ a0 a1 a2 k, LeO (impl_IsCircuit.f k a0 a1 a2) (impl_IsCircuit.f (k + 1) a0 a1 a2) := by
 intro a0 a1 a2 k
 obtain ⟨ih0, ih1⟩ := impl_IsCircuit.mono_l k
 unfold impl_IsCircuit.f
 repeat' first
   | (with_reducible exact ih0 _ _ _ _)
   | (with_reducible exact ih1 _ _ _ _ _ _ _)
   | (with_reducible exact LeO.refl _)
   | (with_reducible exact LeO.none _)
   | (with_reducible refine LeO.ite ?_ ?_)
   | (with_reducible refine LeO.bind ?_ (fun _ => ?_))
   | exact ih0 _ _ _ _
   | exact ih1 _ _ _ _ _ _ _
   | exact LeO.none _
   | refine LeO.ite ?_ ?_
   | refine LeO.bind ?_ (fun _ => ?_)
set_option maxHeartbeats 8000000 in
set_option maxRecDepth 100000 in
theorem impl_IsCircuit.calls (k : Nat) (a0_0 : Int) (A0_1 : Option Addr) (c0_1 : Nat) (l0_1 : List (S46)) (A0_2 : Option Addr) (c0_2 : Nat) (l0_2 : List Int) (r : Bool) (w : World) (hr0_1 : Kd.C k46 w A0_1 l0_1.length l0_1) (hc0_1 : l0_1.length ≤ c0_1) (hr0_2 : Kd.C (Kd.int .i64) w A0_2 l0_2.length l0_2) (hc0_2 : l0_2.length ≤ c0_2) (h : impl_IsCircuit.f k a0_0 l0_1 l0_2 = some r) :
  Calls Try.prog 20 #[.agg #[.int .i64 a0_0, .slice A0_1 l0_1.length c0_1, .slice A0_2 l0_2.length c0_2]] w fun e w' => e = .returned (.bool r) ∧ Below w.heap.size w w' := by
 have hu35 := Try.underlying35; have hu46 := Try.underlying46; have hu23 := Try.underlying23; have HR0_1 := am hr0_1; have HC0_1 := am hc0_1; clear hr0_1 hc0_1; have HR0_2 := am hr0_2; have HC0_2 := am hc0_2; clear hr0_2 hc0_2; have HB := am (Below.refl w.heap.size w)
 have H : (if a0_0 < 0 then (impl_IsCircuit.j0 k true a0_0 l0_1 l0_2) else (if a0_0 > 8 then (impl_IsCircuit.j0 k true a0_0 l0_1 l0_2) else (if (l0_1.length : Int) > 60 then (impl_IsCircuit.j0 k true a0_0 l0_1 l0_2) else (impl_IsCircuit.j0 k (decide ((l0_2.length : Int) > 60)) a0_0 l0_1 l0_2)))) = some r := h
 clear h; have HC2 := am H; clear H
 go_enter Try.func20, Try.ntmps20
 go_upto_region 1 with (first | ((with_reducible refine gate_dst (N := 1) rfl ?_); (try (refine gate_guard (by rfl) ?_; dsimp only)); refine box_event ?hg (N := 1) ?hd (cs := #[.int .i64 a0_0, .slice A0_1 l0_1.length c0_1, .slice A0_2 l0_2.length c0_2]) (t := 35) ?hr ?_; (case hd => rfl); (case hg => rfl); (case hr => first | (go_simp; done) | (go_simp; rfl)); intro gb101 hg w3 hbox hb; have n0_ := am (below_step (bB HB.out) hb); have n1_ := am (hbox); have n2_ := am ((by rw [hg]; exact (below_size (bB HB.out)) : w.heap.size ≤ gb101)); have n3_ := am ((by rw [hg]; exact (below_size (bB HB.out)) : w.heap.size ≤ gb101)); clear HB; have HB := n0_; have BK101 := n1_; have GW101 := n2_; have GE101 := n3_; clear n0_ n1_ n2_ n3_; clear hb hbox hg))
 (try simp only [Act.put, qa20, qb20, qc20])
 go_cut [25] (fun v25 wc => ∃ (kq : Nat) (x25_1 : Bool), v25 = .bool x25_1 ∧ Aside0 (impl_IsCircuit.j0 kq x25_1 a0_0 l0_1 l0_2 = some r) ∧ Aside0 (kq ≤ k) ∧ Aside0 (wc.heap[gb101]? = some (.cells #[.int .i64 a0_0, (.slice A0_1 l0_1.length c0_1), (.slice A0_2 l0_2.length c0_2)] 35 (0, 0))) ∧ Aside0 (Below w.heap.size w wc))
 case first =>
  have H := HC2.out; clear HC2
  by_cases c4 : a0_0 < 0
  ·rw [if_pos c4] at H
   have c4b0 : decide (a0_0 < 0) = true := decide_eq_true c4
   clear c4
   (first | rw [c4b0] | (simp only [i64_w, i32_w]; rw [c4b0]) | skip)
   have H' := am H
   clear H
   have hcz5_0 : w3.cell? ⟨gb101, 0, none⟩ = some (.int .i64 a0_0) := (blk_cell BK101.out 0).trans rfl
   have hcz5_1 : w3.cell? ⟨gb101, 1, none⟩ = some (.slice A0_1 l0_1.length c0_1) := (blk_cell BK101.out 1).trans rfl
   have hcz5_2 : w3.cell? ⟨gb101, 2, none⟩ = some (.slice A0_2 l0_2.length c0_2) := (blk_cell BK101.out 2).trans rfl
   have hfz5_0 := blk_frozen BK101.out 0; have hfz5_1 := blk_frozen BK101.out 1; have hfz5_2 := blk_frozen BK101.out 2
   go_wp2
   go_meet
   case rel => exact ⟨_, (true), (by first | rfl | (simp; done) | (simp [*]; done)), H', ⟨by first | omega | exact Nat.le_refl _⟩, ⟨bA BK101.out⟩, ⟨bB HB.out⟩⟩
  ·rw [if_neg c4] at H
   have c4b0 : decide (a0_0 < 0) = false := decide_eq_false c4
   clear c4
   (first | rw [c4b0] | (simp only [i64_w, i32_w]; rw [c4b0]) | skip)
   by_cases c6 : a0_0 > 8
   ·rw [if_pos c6] at H
    have c6b0 : decide (8 < a0_0) = true := decide_eq_true c6
    clear c6
    have H' := am H
    clear H
    have hcz7_0 : w3.cell? ⟨gb101, 0, none⟩ = some (.int .i64 a0_0) := (blk_cell BK101.out 0).trans rfl
    have hcz7_1 : w3.cell? ⟨gb101, 1, none⟩ = some (.slice A0_1 l0_1.length c0_1) := (blk_cell BK101.out 1).trans rfl
    have hcz7_2 : w3.cell? ⟨gb101, 2, none⟩ = some (.slice A0_2 l0_2.length c0_2) := (blk_cell BK101.out 2).trans rfl
    have hfz7_0 := blk_frozen BK101.out 0; have hfz7_1 := blk_frozen BK101.out 1; have hfz7_2 := blk_frozen BK101.out 2
    go_wp2
    go_meet
    case rel => exact ⟨_, (true), (by first | rfl | (simp; done) | (simp [*]; done)), H', ⟨by first | omega | exact Nat.le_refl _⟩, ⟨bA BK101.out⟩, ⟨bB HB.out⟩⟩
   ·rw [if_neg c6] at H
    have c6b0 : decide (8 < a0_0) = false := decide_eq_false c6
    clear c6
    by_cases c8 : (l0_1.length : Int) > 60
    ·rw [if_pos c8] at H
     have c8b0 : decide (60 < (l0_1.length : Int)) = true := decide_eq_true c8
     have c8b1 : decide (60 < l0_1.length) = true := decide_eq_true (by omega)
     clear c8
     have H' := am H
     clear H
     have hcz9_0 : w3.cell? ⟨gb101, 0, none⟩ = some (.int .i64 a0_0) := (blk_cell BK101.out 0).trans rfl
     have hcz9_1 : w3.cell? ⟨gb101, 1, none⟩ = some (.slice A0_1 l0_1.length c0_1) := (blk_cell BK101.out 1).trans rfl
     have hcz9_2 : w3.cell? ⟨gb101, 2, none⟩ = some (.slice A0_2 l0_2.length c0_2) := (blk_cell BK101.out 2).trans rfl
     have hfz9_0 := blk_frozen BK101.out 0; have hfz9_1 := blk_frozen BK101.out 1; have hfz9_2 := blk_frozen BK101.out 2
     go_wp2
     go_meet
     case rel => exact ⟨_, (true), (by first | rfl | (simp; done) | (simp [*]; done)), H', ⟨by first | omega | exact Nat.le_refl _⟩, ⟨bA BK101.out⟩, ⟨bB HB.out⟩⟩
    ·rw [if_neg c8] at H
     have c8b0 : decide (60 < (l0_1.length : Int)) = false := decide_eq_false c8
     have c8b1 : decide (60 < l0_1.length) = false := decide_eq_false (by omega)
     clear c8
     have H' := am H
     clear H
     have hcz10_0 : w3.cell? ⟨gb101, 0, none⟩ = some (.int .i64 a0_0) := (blk_cell BK101.out 0).trans rfl
     have hcz10_1 : w3.cell? ⟨gb101, 1, none⟩ = some (.slice A0_1 l0_1.length c0_1) := (blk_cell BK101.out 1).trans rfl
     have hcz10_2 : w3.cell? ⟨gb101, 2, none⟩ = some (.slice A0_2 l0_2.length c0_2) := (blk_cell BK101.out 2).trans rfl
     have hfz10_0 := blk_frozen BK101.out 0; have hfz10_1 := blk_frozen BK101.out 1; have hfz10_2 := blk_frozen BK101.out 2
     go_wp2
     go_meet
     case rel => exact ⟨_, (decide ((l0_2.length : Int) > 60)), (by first | rfl | (simp; done) | (simp [*]; done)), H', ⟨by first | omega | exact Nat.le_refl _⟩, ⟨bA BK101.out⟩, ⟨bB HB.out⟩⟩
 case rest =>
  clear HC2
  try clear c2
  try clear p2
  try clear c4
  try clear c4b0
  try clear c6
  try clear c6b0
  try clear c8
  try clear c8b0
  try clear c8b1
  try clear hcz10_0
  try clear hcz10_1
  try clear hcz10_2
  try clear hcz5_0
  try clear hcz5_1
  try clear hcz5_2
  try clear hcz7_0
  try clear hcz7_1
  try clear hcz7_2
  try clear hcz9_0
  try clear hcz9_1
  try clear hcz9_2
  try clear hfz10_0
  try clear hfz10_1
  try clear hfz10_2
  try clear hfz5_0
  try clear hfz5_1
  try clear hfz5_2
  try clear hfz7_0
  try clear hfz7_1
  try clear hfz7_2
  try clear hfz9_0
  try clear hfz9_1
  try clear hfz9_2
  obtain ⟨kq, x25_1, rfl, HA, HJ1, BK101, HB⟩ := hcut
  cases kq with
  | zero => exact absurd HA.out (by simp [impl_IsCircuit.j0])
  | succ kj1 =>
   have H := HA.out; clear HA
   simp only [impl_IsCircuit.j0] at H
   by_cases c11 : x25_1 = true
   ·subst c11
    have H1 : (some false) = some r := by rw [if_pos rfl] at H; exact H
    clear H; have H := H1; clear H1
    obtain rfl := Option.some.inj H
    go_wp2
    go_ret
    exact ⟨by first | rfl | (simp [errW_none, errW_some] <;> rfl) | (simp [*, errW_none, errW_some] <;> rfl), bB HB.out⟩
   ·replace c11 := Bool.eq_false_iff.mpr c11
    subst c11
    have H1 : (impl_IsCircuit.l0 kj1 l0_1 (l0_1.length : Int) 0 a0_0 l0_1 l0_2 (wrap64 (3 + a0_0))) = some r := by rw [if_neg (show ¬ (false = true) by decide)] at H; exact H
    clear H; have H := H1; clear H1
    have H' := am H
    clear H
    have hcz12_0 : wc.cell? ⟨gb101, 0, none⟩ = some (.int .i64 a0_0) := (blk_cell BK101.out 0).trans rfl
    have hcz12_1 : wc.cell? ⟨gb101, 1, none⟩ = some (.slice A0_1 l0_1.length c0_1) := (blk_cell BK101.out 1).trans rfl
    have hcz12_2 : wc.cell? ⟨gb101, 2, none⟩ = some (.slice A0_2 l0_2.length c0_2) := (blk_cell BK101.out 2).trans rfl
    have hfz12_0 := blk_frozen BK101.out 0; have hfz12_1 := blk_frozen BK101.out 1; have hfz12_2 := blk_frozen BK101.out 2
    go_wp2_with (first | ((with_reducible refine gate_dst (N := 3) rfl ?_); (try (refine gate_guard (by rfl) ?_; dsimp only)); refine box_event ?hg (N := 3) ?hd (cs := #[.int .i64 0]) (t := 3) ?hr ?_; (case hd => rfl); (case hg => rfl); (case hr => first | (go_simp; done) | (go_simp; rfl)); intro gb102 hg w13 hbox hb; have n0_ := am (blk_below (bA BK101.out) hb); have n1_ := am (below_step (bB HB.out) hb); have n2_ := am (hbox); have n3_ := am ((by rw [hg]; exact (below_size (bB HB.out)) : w.heap.size ≤ gb102)); have n4_ := am ((by rw [hg]; exact (below_size (bB HB.out)) : w.heap.size ≤ gb102)); have n5_ := am ((by rw [hg]; exact Nat.ne_of_lt (blk_lt (g := gb101) (o := .cells #[.int .i64 a0_0, .slice A0_1 l0_1.length c0_1, .slice A0_2 l0_2.length c0_2] 35 (0, 0)) (bA BK101.out)) : gb101 ≠ gb102)); have n6_ := am ((by rw [hg]; exact Nat.ne_of_gt (blk_lt (g := gb101) (o := .cells #[.int .i64 a0_0, .slice A0_1 l0_1.length c0_1, .slice A0_2 l0_2.length c0_2] 35 (0, 0)) (bA BK101.out)) : gb102 ≠ gb101)); clear BK101; clear HB; have BK101 := n0_; have HB := n1_; have BK102 := n2_; have GW102 := n3_; have GE102 := n4_; have NB101_102 := n5_; have NB102_101 := n6_; clear n0_ n1_ n2_ n3_ n4_ n5_ n6_; clear hb hbox hg; have hnb14 := NB102_101.out; have hnc14 := NB101_102.out; have hcz15_0 : w13.cell? ⟨gb102, 0, none⟩ = some (.int .i64 0) := (blk_cell BK102.out 0).trans rfl; have hfz15_0 := blk_frozen BK102.out 0; have hcz16_0 : w13.cell? ⟨gb101, 0, none⟩ = some (.int .i64 a0_0) := (blk_cell BK101.out 0).trans rfl; have hcz16_1 : w13.cell? ⟨gb101, 1, none⟩ = some (.slice A0_1 l0_1.length c0_1) := (blk_cell BK101.out 1).trans rfl; have hcz16_2 : w13.cell? ⟨gb101, 2, none⟩ = some (.slice A0_2 l0_2.length c0_2) := (blk_cell BK101.out 2).trans rfl; have hfz16_0 := blk_frozen BK101.out 0; have hfz16_1 := blk_frozen BK101.out 1; have hfz16_2 := blk_frozen BK101.out 2))
    go_loopg [32] kj1 (fun kq v32 w' => ∃ (x32_2 : Int) (x103000_2 : Int), v32 = .int .i64 x32_2 ∧ Aside0 (impl_IsCircuit.l0 kq l0_1 (l0_1.length : Int) x32_2 a0_0 l0_1 l0_2 x103000_2 = some r) ∧ Aside0 (kq ≤ kj1) ∧ Aside0 (w'.heap[gb101]? = some (.cells #[.int .i64 a0_0, (.slice A0_1 l0_1.length c0_1), (.slice A0_2 l0_2.length c0_2)] 35 (0, 0))) ∧ Aside0 (w'.heap[gb102]? = some (.cells #[.int .i64 x103000_2] 3 (0, 0))) ∧ Aside0 (Below w.heap.size w w'))
    case atStart => exact ⟨(0), (wrap64 (3 + a0_0)), (by first | rfl | (simp; done) | (simp [*]; done)), H', ⟨Nat.le_refl _⟩, ⟨by (with_reducible repeat (first | refine blk_drewN ?_ _ | refine blk_drew ?_ | refine blk_alloc ?_ _)); refine blk_far ?_ NB101_102.out _; (with_reducible repeat (first | refine blk_drewN ?_ _ | refine blk_drew ?_ | refine blk_alloc ?_ _)); exact BK101.out⟩, ⟨by (with_reducible repeat (first | refine blk_drewN ?_ _ | refine blk_drew ?_ | refine blk_alloc ?_ _)); refine blk_put (cs := #[.int .i64 0]) ?_ 0 _ rfl; (with_reducible repeat (first | refine blk_drewN ?_ _ | refine blk_drew ?_ | refine blk_alloc ?_ _)); exact BK102.out⟩, ⟨bB HB.out⟩⟩
    case round =>
     clear H'
     try clear c1
     try clear c2
     try clear p2
     try clear c4
     try clear c4b0
     try clear c6
     try clear c6b0
     try clear p6
     try clear c8
     try clear c8b0
     try clear c8b1
     try clear c11
     try clear c14
     try clear hcz10_0
     try clear hcz10_1
     try clear hcz10_2
     try clear hcz12_0
     try clear hcz12_1
     try clear hcz12_2
     try clear hcz15_0
     try clear hcz16_0
     try clear hcz16_1
     try clear hcz16_2
     try clear hcz5_0
     try clear hcz5_1
     try clear hcz5_2
     try clear hcz7_0
     try clear hcz7_1
     try clear hcz7_2
     try clear hcz9_0
     try clear hcz9_1
     try clear hcz9_2
     try clear hfz10_0
     try clear hfz10_1
     try clear hfz10_2
     try clear hfz12_0
     try clear hfz12_1
     try clear hfz12_2
     try clear hfz15_0
     try clear hfz16_0
     try clear hfz16_1
     try clear hfz16_2
     try clear hfz5_0
     try clear hfz5_1
     try clear hfz5_2
     try clear hfz7_0
     try clear hfz7_1
     try clear hfz7_2
     try clear hfz9_0
     try clear hfz9_1
     try clear hfz9_2
     try clear p2
     obtain ⟨x32_2, x103000_2, rfl, HA, HK2, BK101, BK102, HB⟩ := hrel
     cases gk with
     | zero => exact absurd HA.out (by simp [impl_IsCircuit.l0])
     | succ k2 =>
      have H := HA.out; clear HA
      simp only [impl_IsCircuit.l0] at H
      by_cases c17 : x32_2 < (l0_1.length : Int)
      ·rw [if_pos c17] at H
       have c17b0 : decide (x32_2 < (l0_1.length : Int)) = true := decide_eq_true c17
       clear c17
       by_cases c18 : 0 ≤ x32_2
       ·rw [if_pos c18] at H
        have c18b0 : decide (0 ≤ x32_2) = true := decide_eq_true c18
        clear c18
        by_cases c19 : x32_2 < (l0_1.length : Int)
        ·rw [if_pos c19] at H
         have c19b0 : decide (x32_2 < (l0_1.length : Int)) = true := decide_eq_true c19
         clear c19
         replace H := Option.bind_eq_some_iff.mp H
         obtain ⟨t105, A200, H⟩ := H
         replace H : (if t105 = true then (if ((rd_T46 l0_1 x32_2).f1) < 0 then (some false) else (if ((rd_T46 l0_1 x32_2).f1) ≥ x103000_2 then (some false) else (if ((rd_T46 l0_1 x32_2).f2) < 0 then (some false) else (if ((rd_T46 l0_1 x32_2).f2) ≥ x103000_2 then (some false) else (impl_IsCircuit.l0 k2 l0_1 (l0_1.length : Int) (wrap64 (x32_2 + 1)) a0_0 l0_1 l0_2 (wrap64 (x103000_2 + 1))))))) else (some false)) = some r := H
         have A20 := am A200; clear A200
         by_cases c21 : t105 = true
         ·subst c21
          have H1 : (if ((rd_T46 l0_1 x32_2).f1) < 0 then (some false) else (if ((rd_T46 l0_1 x32_2).f1) ≥ x103000_2 then (some false) else (if ((rd_T46 l0_1 x32_2).f2) < 0 then (some false) else (if ((rd_T46 l0_1 x32_2).f2) ≥ x103000_2 then (some false) else (impl_IsCircuit.l0 k2 l0_1 (l0_1.length : Int) (wrap64 (x32_2 + 1)) a0_0 l0_1 l0_2 (wrap64 (x103000_2 + 1))))))) = some r := by rw [if_pos rfl] at H; exact H
          clear H; have H := H1; clear H1
          by_cases c22 : ((rd_T46 l0_1 x32_2).f1) < 0
          ·rw [if_pos c22] at H
           have c22b0 : decide (((rd_T46 l0_1 x32_2).f1) < 0) = true := decide_eq_true c22
           clear c22
           obtain rfl := Option.some.inj H
           have p103 : 0 ≤ (x32_2 : Int) := of_decide_eq_true (by assumption)
           have q103 : x32_2 < (l0_1.length : Int) := of_decide_eq_true (by assumption)
           obtain ⟨ad103, e103, hx103_0, hx103_1, hx103_2, hx103_3, hx103_4, hx103_5, hx103_6, hx103_7, hx103_8, hx103_9, hx103_10⟩ := at_T46 HR0_1.out x32_2 p103 q103
           cases e103
           replace hx103_0 := (HB.out.cell (World.block_lt_of_cell? w _ hx103_0)).trans hx103_0
           replace hx103_1 := (HB.out.cell (World.block_lt_of_cell? w _ hx103_1)).trans hx103_1
           replace hx103_2 := (HB.out.cell (World.block_lt_of_cell? w _ hx103_2)).trans hx103_2
           replace hx103_3 := (HB.out.cell (World.block_lt_of_cell? w _ hx103_3)).trans hx103_3
           replace hx103_4 := (HB.out.cell (World.block_lt_of_cell? w _ hx103_4)).trans hx103_4
           replace hx103_5 := (HB.out.cell (World.block_lt_of_cell? w _ hx103_5)).trans hx103_5
           replace hx103_6 := (HB.out.cell (World.block_lt_of_cell? w _ hx103_6)).trans hx103_6
           replace hx103_7 := (HB.out.cell (World.block_lt_of_cell? w _ hx103_7)).trans hx103_7
           replace hx103_8 := (HB.out.cell (World.block_lt_of_cell? w _ hx103_8)).trans hx103_8
           replace hx103_9 := (HB.out.cell (World.block_lt_of_cell? w _ hx103_9)).trans hx103_9
           replace hx103_10 := (HB.out.cell (World.block_lt_of_cell? w _ hx103_10)).trans hx103_10
           replace p103 := eq_true p103
           replace q103 := eq_true q103
           go_wp2_with (first | ((with_reducible refine gate_dst (N := 5) rfl ?_); (try (refine gate_guard (by rfl) ?_; dsimp only)); refine box_event ?hg (N := 5) ?hd (cs := #[.int .i64 0, .int .i64 0, .int .i64 0, .int .i64 0, .int .i64 0, .int .i64 0, .int .i64 0, .int .i64 0, .int .i64 0, .int .i64 0, .int .i64 0]) (t := 46) ?hr ?_; (case hd => rfl); (case hg => rfl); (case hr => first | (go_simp; done) | (go_simp; rfl)); intro gb104 hg w23 hbox hb; have n0_ := am (blk_below (bA BK101.out) hb); have n1_ := am (blk_below (bA BK102.out) hb); have n2_ := am (below_step (bB HB.out) hb); have n3_ := am (hbox); have n4_ := am ((by rw [hg]; exact (below_size (bB HB.out)) : w.heap.size ≤ gb104)); have n5_ := am ((by rw [hg]; exact (below_size (bB HB.out)) : w.heap.size ≤ gb104)); have n6_ := am ((by rw [hg]; exact Nat.ne_of_lt (blk_lt (g := gb101) (o := .cells #[.int .i64 a0_0, .slice (some ad103) l0_1.length c0_1, .slice A0_2 l0_2.length c0_2] 35 (0, 0)) (bA BK101.out)) : gb101 ≠ gb104)); have n7_ := am ((by rw [hg]; exact Nat.ne_of_gt (blk_lt (g := gb101) (o := .cells #[.int .i64 a0_0, .slice (some ad103) l0_1.length c0_1, .slice A0_2 l0_2.length c0_2] 35 (0, 0)) (bA BK101.out)) : gb104 ≠ gb101)); have n8_ := am ((by rw [hg]; exact Nat.ne_of_lt (blk_lt (g := gb102) (o := .cells #[.int .i64 x103000_2] 3 (0, 0)) (bA BK102.out)) : gb102 ≠ gb104)); have n9_ := am ((by rw [hg]; exact Nat.ne_of_gt (blk_lt (g := gb102) (o := .cells #[.int .i64 x103000_2] 3 (0, 0)) (bA BK102.out)) : gb104 ≠ gb102)); clear BK101; clear BK102; clear HB; have BK101 := n0_; have BK102 := n1_; have HB := n2_; have BK104 := n3_; have GW104 := n4_; have GE104 := n5_; have NB101_104 := n6_; have NB104_101 := n7_; have NB102_104 := n8_; have NB104_102 := n9_; clear n0_ n1_ n2_ n3_ n4_ n5_ n6_ n7_ n8_ n9_; clear hb hbox hg; have hnb24 := NB104_101.out; have hnc24 := NB101_104.out; have hnb25 := NB104_102.out; have hnc25 := NB102_104.out; have hcz26_0 : w23.cell? ⟨gb104, 0, none⟩ = some (.int .i64 0) := (blk_cell BK104.out 0).trans rfl; have hcz26_1 : w23.cell? ⟨gb104, 1, none⟩ = some (.int .i64 0) := (blk_cell BK104.out 1).trans rfl; have hcz26_2 : w23.cell? ⟨gb104, 2, none⟩ = some (.int .i64 0) := (blk_cell BK104.out 2).trans rfl; have hcz26_3 : w23.cell? ⟨gb104, 3, none⟩ = some (.int .i64 0) := (blk_cell BK104.out 3).trans rfl; have hcz26_4 : w23.cell? ⟨gb104, 4, none⟩ = some (.int .i64 0) := (blk_cell BK104.out 4).trans rfl; have hcz26_5 : w23.cell? ⟨gb104, 5, none⟩ = some (.int .i64 0) := (blk_cell BK104.out 5).trans rfl; have hcz26_6 : w23.cell? ⟨gb104, 6, none⟩ = some (.int .i64 0) := (blk_cell BK104.out 6).trans rfl; have hcz26_7 : w23.cell? ⟨gb104, 7, none⟩ = some (.int .i64 0) := (blk_cell BK104.out 7).trans rfl; have hcz26_8 : w23.cell? ⟨gb104, 8, none⟩ = some (.int .i64 0) := (blk_cell BK104.out 8).trans rfl; have hcz26_9 : w23.cell? ⟨gb104, 9, none⟩ = some (.int .i64 0) := (blk_cell BK104.out 9).trans rfl; have hcz26_10 : w23.cell? ⟨gb104, 10, none⟩ = some (.int .i64 0) := (blk_cell BK104.out 10).trans rfl; have hfz26_0 := blk_frozen BK104.out 0; have hfz26_1 := blk_frozen BK104.out 1; have hfz26_2 := blk_frozen BK104.out 2; have hfz26_3 := blk_frozen BK104.out 3; have hfz26_4 := blk_frozen BK104.out 4; have hfz26_5 := blk_frozen BK104.out 5; have hfz26_6 := blk_frozen BK104.out 6; have hfz26_7 := blk_frozen BK104.out 7; have hfz26_8 := blk_frozen BK104.out 8; have hfz26_9 := blk_frozen BK104.out 9; have hfz26_10 := blk_frozen BK104.out 10) | ((with_reducible refine gate_callee (f := 58) rfl ?_); refine goesL_ (some 38) rfl rfl Try.func58 (by kernel_rfl) rfl #[.agg #[.int .i64 ((rd_T46 l0_1 x32_2).f0.f0), .int .i64 ((rd_T46 l0_1 x32_2).f0.f1), .int .i64 ((rd_T46 l0_1 x32_2).f0.f2), .int .i64 ((rd_T46 l0_1 x32_2).f0.f3), .int .i64 ((rd_T46 l0_1 x32_2).f0.f4), .int .i64 ((rd_T46 l0_1 x32_2).f0.f5), .int .i64 ((rd_T46 l0_1 x32_2).f0.f6), .int .i64 ((rd_T46 l0_1 x32_2).f0.f7), .int .i64 ((rd_T46 l0_1 x32_2).f0.f8)]] rfl bE ?_; (with_reducible refine (impl_IsTable.calls ((rd_T46 l0_1 x32_2).f0.f0) ((rd_T46 l0_1 x32_2).f0.f1) ((rd_T46 l0_1 x32_2).f0.f2) ((rd_T46 l0_1 x32_2).f0.f3) ((rd_T46 l0_1 x32_2).f0.f4) ((rd_T46 l0_1 x32_2).f0.f5) ((rd_T46 l0_1 x32_2).f0.f6) ((rd_T46 l0_1 x32_2).f0.f7) ((rd_T46 l0_1 x32_2).f0.f8) true _ A20.out).mono ?_); rintro e w27 ⟨rfl, hb⟩; refine ⟨_, rfl, ?_⟩; have n0_ := am (blk_below (g := gb101) (o := .cells #[.int .i64 a0_0, .slice (some ad103) l0_1.length c0_1, .slice A0_2 l0_2.length c0_2] 35 (0, 0)) (by (with_reducible repeat (first | refine blk_drewN ?_ _ | refine blk_drew ?_ | refine blk_alloc ?_ _)); refine blk_far ?_ NB101_104.out _; (with_reducible repeat (first | refine blk_drewN ?_ _ | refine blk_drew ?_ | refine blk_alloc ?_ _)); refine blk_far ?_ NB101_104.out _; (with_reducible repeat (first | refine blk_drewN ?_ _ | refine blk_drew ?_ | refine blk_alloc ?_ _)); refine blk_far ?_ NB101_104.out _; (with_reducible repeat (first | refine blk_drewN ?_ _ | refine blk_drew ?_ | refine blk_alloc ?_ _)); refine blk_far ?_ NB101_104.out _; (with_reducible repeat (first | refine blk_drewN ?_ _ | refine blk_drew ?_ | refine blk_alloc ?_ _)); refine blk_far ?_ NB101_104.out _; (with_reducible repeat (first | refine blk_drewN ?_ _ | refine blk_drew ?_ | refine blk_alloc ?_ _)); refine blk_far ?_ NB101_104.out _; (with_reducible repeat (first | refine blk_drewN ?_ _ | refine blk_drew ?_ | refine blk_alloc ?_ _)); refine blk_far ?_ NB101_104.out _; (with_reducible repeat (first | refine blk_drewN ?_ _ | refine blk_drew ?_ | refine blk_alloc ?_ _)); refine blk_far ?_ NB101_104.out _; (with_reducible repeat (first | refine blk_drewN ?_ _ | refine blk_drew ?_ | refine blk_alloc ?_ _)); refine blk_far ?_ NB101_104.out _; (with_reducible repeat (first | refine blk_drewN ?_ _ | refine blk_drew ?_ | refine blk_alloc ?_ _)); refine blk_far ?_ NB101_104.out _; (with_reducible repeat (first | refine blk_drewN ?_ _ | refine blk_drew ?_ | refine blk_alloc ?_ _)); refine blk_far ?_ NB101_104.out _; (with_reducible repeat (first | refine blk_drewN ?_ _ | refine blk_drew ?_ | refine blk_alloc ?_ _)); exact BK101.out) hb); have n1_ := am (blk_below (g := gb102) (o := .cells #[.int .i64 x103000_2] 3 (0, 0)) (by (with_reducible repeat (first | refine blk_drewN ?_ _ | refine blk_drew ?_ | refine blk_alloc ?_ _)); refine blk_far ?_ NB102_104.out _; (with_reducible repeat (first | refine blk_drewN ?_ _ | refine blk_drew ?_ | refine blk_alloc ?_ _)); refine blk_far ?_ NB102_104.out _; (with_reducible repeat (first | refine blk_drewN ?_ _ | refine blk_drew ?_ | refine blk_alloc ?_ _)); refine blk_far ?_ NB102_104.out _; (with_reducible repeat (first | refine blk_drewN ?_ _ | refine blk_drew ?_ | refine blk_alloc ?_ _)); refine blk_far ?_ NB102_104.out _; (with_reducible repeat (first | refine blk_drewN ?_ _ | refine blk_drew ?_ | refine blk_alloc ?_ _)); refine blk_far ?_ NB102_104.out _; (with_reducible repeat (first | refine blk_drewN ?_ _ | refine blk_drew ?_ | refine blk_alloc ?_ _)); refine blk_far ?_ NB102_104.out _; (with_reducible repeat (first | refine blk_drewN ?_ _ | refine blk_drew ?_ | refine blk_alloc ?_ _)); refine blk_far ?_ NB102_104.out _; (with_reducible repeat (first | refine blk_drewN ?_ _ | refine blk_drew ?_ | refine blk_alloc ?_ _)); refine blk_far ?_ NB102_104.out _; (with_reducible repeat (first | refine blk_drewN ?_ _ | refine blk_drew ?_ | refine blk_alloc ?_ _)); refine blk_far ?_ NB102_104.out _; (with_reducible repeat (first | refine blk_drewN ?_ _ | refine blk_drew ?_ | refine blk_alloc ?_ _)); refine blk_far ?_ NB102_104.out _; (with_reducible repeat (first | refine blk_drewN ?_ _ | refine blk_drew ?_ | refine blk_alloc ?_ _)); refine blk_far ?_ NB102_104.out _; (with_reducible repeat (first | refine blk_drewN ?_ _ | refine blk_drew ?_ | refine blk_alloc ?_ _)); exact BK102.out) hb); have n2_ := am (blk_below (g := gb104) (o := .cells #[.int .i64 ((rd_T46 l0_1 x32_2).f0.f0), .int .i64 ((rd_T46 l0_1 x32_2).f0.f1), .int .i64 ((rd_T46 l0_1 x32_2).f0.f2), .int .i64 ((rd_T46 l0_1 x32_2).f0.f3), .int .i64 ((rd_T46 l0_1 x32_2).f0.f4), .int .i64 ((rd_T46 l0_1 x32_2).f0.f5), .int .i64 ((rd_T46 l0_1 x32_2).f0.f6), .int .i64 ((rd_T46 l0_1 x32_2).f0.f7), .int .i64 ((rd_T46 l0_1 x32_2).f0.f8), .int .i64 ((rd_T46 l0_1 x32_2).f1), .int .i64 ((rd_T46 l0_1 x32_2).f2)] 46 (0, 0)) (by (with_reducible repeat (first | refine blk_drewN ?_ _ | refine blk_drew ?_ | refine blk_alloc ?_ _)); refine blk_put (cs := #[.int .i64 ((rd_T46 l0_1 x32_2).f0.f0), .int .i64 ((rd_T46 l0_1 x32_2).f0.f1), .int .i64 ((rd_T46 l0_1 x32_2).f0.f2), .int .i64 ((rd_T46 l0_1 x32_2).f0.f3), .int .i64 ((rd_T46 l0_1 x32_2).f0.f4), .int .i64 ((rd_T46 l0_1 x32_2).f0.f5), .int .i64 ((rd_T46 l0_1 x32_2).f0.f6), .int .i64 ((rd_T46 l0_1 x32_2).f0.f7), .int .i64 ((rd_T46 l0_1 x32_2).f0.f8), .int .i64 ((rd_T46 l0_1 x32_2).f1), .int .i64 0]) ?_ 10 _ rfl; (with_reducible repeat (first | refine blk_drewN ?_ _ | refine blk_drew ?_ | refine blk_alloc ?_ _)); refine blk_put (cs := #[.int .i64 ((rd_T46 l0_1 x32_2).f0.f0), .int .i64 ((rd_T46 l0_1 x32_2).f0.f1), .int .i64 ((rd_T46 l0_1 x32_2).f0.f2), .int .i64 ((rd_T46 l0_1 x32_2).f0.f3), .int .i64 ((rd_T46 l0_1 x32_2).f0.f4), .int .i64 ((rd_T46 l0_1 x32_2).f0.f5), .int .i64 ((rd_T46 l0_1 x32_2).f0.f6), .int .i64 ((rd_T46 l0_1 x32_2).f0.f7), .int .i64 ((rd_T46 l0_1 x32_2).f0.f8), .int .i64 0, .int .i64 0]) ?_ 9 _ rfl; (with_reducible repeat (first | refine blk_drewN ?_ _ | refine blk_drew ?_ | refine blk_alloc ?_ _)); refine blk_put (cs := #[.int .i64 ((rd_T46 l0_1 x32_2).f0.f0), .int .i64 ((rd_T46 l0_1 x32_2).f0.f1), .int .i64 ((rd_T46 l0_1 x32_2).f0.f2), .int .i64 ((rd_T46 l0_1 x32_2).f0.f3), .int .i64 ((rd_T46 l0_1 x32_2).f0.f4), .int .i64 ((rd_T46 l0_1 x32_2).f0.f5), .int .i64 ((rd_T46 l0_1 x32_2).f0.f6), .int .i64 ((rd_T46 l0_1 x32_2).f0.f7), .int .i64 0, .int .i64 0, .int .i64 0]) ?_ 8 _ rfl; (with_reducible repeat (first | refine blk_drewN ?_ _ | refine blk_drew ?_ | refine blk_alloc ?_ _)); refine blk_put (cs := #[.int .i64 ((rd_T46 l0_1 x32_2).f0.f0), .int .i64 ((rd_T46 l0_1 x32_2).f0.f1), .int .i64 ((rd_T46 l0_1 x32_2).f0.f2), .int .i64 ((rd_T46 l0_1 x32_2).f0.f3), .int .i64 ((rd_T46 l0_1 x32_2).f0.f4), .int .i64 ((rd_T46 l0_1 x32_2).f0.f5), .int .i64 ((rd_T46 l0_1 x32_2).f0.f6), .int .i64 0, .int .i64 0, .int .i64 0, .int .i64 0]) ?_ 7 _ rfl; (with_reducible repeat (first | refine blk_drewN ?_ _ | refine blk_drew ?_ | refine blk_alloc ?_ _)); refine blk_put (cs := #[.int .i64 ((rd_T46 l0_1 x32_2).f0.f0), .int .i64 ((rd_T46 l0_1 x32_2).f0.f1), .int .i64 ((rd_T46 l0_1 x32_2).f0.f2), .int .i64 ((rd_T46 l0_1 x32_2).f0.f3), .int .i64 ((rd_T46 l0_1 x32_2).f0.f4), .int .i64 ((rd_T46 l0_1 x32_2).f0.f5), .int .i64 0, .int .i64 0, .int .i64 0, .int .i64 0, .int .i64 0]) ?_ 6 _ rfl; (with_reducible repeat (first | refine blk_drewN ?_ _ | refine blk_drew ?_ | refine blk_alloc ?_ _)); refine blk_put (cs := #[.int .i64 ((rd_T46 l0_1 x32_2).f0.f0), .int .i64 ((rd_T46 l0_1 x32_2).f0.f1), .int .i64 ((rd_T46 l0_1 x32_2).f0.f2), .int .i64 ((rd_T46 l0_1 x32_2).f0.f3), .int .i64 ((rd_T46 l0_1 x32_2).f0.f4), .int .i64 0, .int .i64 0, .int .i64 0, .int .i64 0, .int .i64 0, .int .i64 0]) ?_ 5 _ rfl; (with_reducible repeat (first | refine blk_drewN ?_ _ | refine blk_drew ?_ | refine blk_alloc ?_ _)); refine blk_put (cs := #[.int .i64 ((rd_T46 l0_1 x32_2).f0.f0), .int .i64 ((rd_T46 l0_1 x32_2).f0.f1), .int .i64 ((rd_T46 l0_1 x32_2).f0.f2), .int .i64 ((rd_T46 l0_1 x32_2).f0.f3), .int .i64 0, .int .i64 0, .int .i64 0, .int .i64 0, .int .i64 0, .int .i64 0, .int .i64 0]) ?_ 4 _ rfl; (with_reducible repeat (first | refine blk_drewN ?_ _ | refine blk_drew ?_ | refine blk_alloc ?_ _)); refine blk_put (cs := #[.int .i64 ((rd_T46 l0_1 x32_2).f0.f0), .int .i64 ((rd_T46 l0_1 x32_2).f0.f1), .int .i64 ((rd_T46 l0_1 x32_2).f0.f2), .int .i64 0, .int .i64 0, .int .i64 0, .int .i64 0, .int .i64 0, .int .i64 0, .int .i64 0, .int .i64 0]) ?_ 3 _ rfl; (with_reducible repeat (first | refine blk_drewN ?_ _ | refine blk_drew ?_ | refine blk_alloc ?_ _)); refine blk_put (cs := #[.int .i64 ((rd_T46 l0_1 x32_2).f0.f0), .int .i64 ((rd_T46 l0_1 x32_2).f0.f1), .int .i64 0, .int .i64 0, .int .i64 0, .int .i64 0, .int .i64 0, .int .i64 0, .int .i64 0, .int .i64 0, .int .i64 0]) ?_ 2 _ rfl; (with_reducible repeat (first | refine blk_drewN ?_ _ | refine blk_drew ?_ | refine blk_alloc ?_ _)); refine blk_put (cs := #[.int .i64 ((rd_T46 l0_1 x32_2).f0.f0), .int .i64 0, .int .i64 0, .int .i64 0, .int .i64 0, .int .i64 0, .int .i64 0, .int .i64 0, .int .i64 0, .int .i64 0, .int .i64 0]) ?_ 1 _ rfl; (with_reducible repeat (first | refine blk_drewN ?_ _ | refine blk_drew ?_ | refine blk_alloc ?_ _)); refine blk_put (cs := #[.int .i64 0, .int .i64 0, .int .i64 0, .int .i64 0, .int .i64 0, .int .i64 0, .int .i64 0, .int .i64 0, .int .i64 0, .int .i64 0, .int .i64 0]) ?_ 0 _ rfl; (with_reducible repeat (first | refine blk_drewN ?_ _ | refine blk_drew ?_ | refine blk_alloc ?_ _)); exact BK104.out) hb); have n3_ := am (below_step (bB HB.out) hb); clear BK101; clear BK102; clear BK104; clear HB; have BK101 := n0_; have BK102 := n1_; have BK104 := n2_; have HB := n3_; clear n0_ n1_ n2_ n3_; (try clear hb); (try clear hb2); (try clear hk); (try clear hi); have hcz28_0 : w27.cell? ⟨gb104, 0, none⟩ = some (.int .i64 ((rd_T46 l0_1 x32_2).f0.f0)) := (blk_cell BK104.out 0).trans rfl; have hcz28_1 : w27.cell? ⟨gb104, 1, none⟩ = some (.int .i64 ((rd_T46 l0_1 x32_2).f0.f1)) := (blk_cell BK104.out 1).trans rfl; have hcz28_2 : w27.cell? ⟨gb104, 2, none⟩ = some (.int .i64 ((rd_T46 l0_1 x32_2).f0.f2)) := (blk_cell BK104.out 2).trans rfl; have hcz28_3 : w27.cell? ⟨gb104, 3, none⟩ = some (.int .i64 ((rd_T46 l0_1 x32_2).f0.f3)) := (blk_cell BK104.out 3).trans rfl; have hcz28_4 : w27.cell? ⟨gb104, 4, none⟩ = some (.int .i64 ((rd_T46 l0_1 x32_2).f0.f4)) := (blk_cell BK104.out 4).trans rfl; have hcz28_5 : w27.cell? ⟨gb104, 5, none⟩ = some (.int .i64 ((rd_T46 l0_1 x32_2).f0.f5)) := (blk_cell BK104.out 5).trans rfl; have hcz28_6 : w27.cell? ⟨gb104, 6, none⟩ = some (.int .i64 ((rd_T46 l0_1 x32_2).f0.f6)) := (blk_cell BK104.out 6).trans rfl; have hcz28_7 : w27.cell? ⟨gb104, 7, none⟩ = some (.int .i64 ((rd_T46 l0_1 x32_2).f0.f7)) := (blk_cell BK104.out 7).trans rfl; have hcz28_8 : w27.cell? ⟨gb104, 8, none⟩ = some (.int .i64 ((rd_T46 l0_1 x32_2).f0.f8)) := (blk_cell BK104.out 8).trans rfl; have hcz28_9 : w27.cell? ⟨gb104, 9, none⟩ = some (.int .i64 ((rd_T46 l0_1 x32_2).f1)) := (blk_cell BK104.out 9).trans rfl; have hcz28_10 : w27.cell? ⟨gb104, 10, none⟩ = some (.int .i64 ((rd_T46 l0_1 x32_2).f2)) := (blk_cell BK104.out 10).trans rfl; have hfz28_0 := blk_frozen BK104.out 0; have hfz28_1 := blk_frozen BK104.out 1; have hfz28_2 := blk_frozen BK104.out 2; have hfz28_3 := blk_frozen BK104.out 3; have hfz28_4 := blk_frozen BK104.out 4; have hfz28_5 := blk_frozen BK104.out 5; have hfz28_6 := blk_frozen BK104.out 6; have hfz28_7 := blk_frozen BK104.out 7; have hfz28_8 := blk_frozen BK104.out 8; have hfz28_9 := blk_frozen BK104.out 9; have hfz28_10 := blk_frozen BK104.out 10))
           go_ret
           exact ⟨by first | rfl | (simp [errW_none, errW_some] <;> rfl) | (simp [*, errW_none, errW_some] <;> rfl), bB HB.out⟩
          ·rw [if_neg c22] at H
           have c22b0 : decide (((rd_T46 l0_1 x32_2).f1) < 0) = false := decide_eq_false c22
           clear c22
           by_cases c29 : ((rd_T46 l0_1 x32_2).f1) ≥ x103000_2
           ·rw [if_pos c29] at H
            have c29b0 : decide (x103000_2 ≤ ((rd_T46 l0_1 x32_2).f1)) = true := decide_eq_true c29
            clear c29
            obtain rfl := Option.some.inj H
            have p103 : 0 ≤ (x32_2 : Int) := of_decide_eq_true (by assumption)
            have q103 : x32_2 < (l0_1.length : Int) := of_decide_eq_true (by assumption)
            obtain ⟨ad103, e103, hx103_0, hx103_1, hx103_2, hx103_3, hx103_4, hx103_5, hx103_6, hx103_7, hx103_8, hx103_9, hx103_10⟩ := at_T46 HR0_1.out x32_2 p103 q103
            cases e103
            replace hx103_0 := (HB.out.cell (World.block_lt_of_cell? w _ hx103_0)).trans hx103_0
            replace hx103_1 := (HB.out.cell (World.block_lt_of_cell? w _ hx103_1)).trans hx103_1
            replace hx103_2 := (HB.out.cell (World.block_lt_of_cell? w _ hx103_2)).trans hx103_2
            replace hx103_3 := (HB.out.cell (World.block_lt_of_cell? w _ hx103_3)).trans hx103_3
            replace hx103_4 := (HB.out.cell (World.block_lt_of_cell? w _ hx103_4)).trans hx103_4
            replace hx103_5 := (HB.out.cell (World.block_lt_of_cell? w _ hx103_5)).trans hx103_5
            replace hx103_6 := (HB.out.cell (World.block_lt_of_cell? w _ hx103_6)).trans hx103_6
            replace hx103_7 := (HB.out.cell (World.block_lt_of_cell? w _ hx103_7)).trans hx103_7
            replace hx103_8 := (HB.out.cell (World.block_lt_of_cell? w _ hx103_8)).trans hx103_8
            replace hx103_9 := (HB.out.cell (World.block_lt_of_cell? w _ hx103_9)).trans hx103_9
            replace hx103_10 := (HB.out.cell (World.block_lt_of_cell? w _ hx103_10)).trans hx103_10
            replace p103 := eq_true p103
            replace q103 := eq_true q103
            go_wp2_with (first | ((with_reducible refine gate_dst (N := 5) rfl ?_); (try (refine gate_guard (by rfl) ?_; dsimp only)); refine box_event ?hg (N := 5) ?hd (cs := #[.int .i64 0, .int .i64 0, .int .i64 0, .int .i64 0, .int .i64 0, .int .i64 0, .int .i64 0, .int .i64 0, .int .i64 0, .int .i64 0, .int .i64 0]) (t := 46) ?hr ?_; (case hd => rfl); (case hg => rfl); (case hr => first | (go_simp; done) | (go_simp; rfl)); intro gb104 hg w30 hbox hb; have n0_ := am (blk_below (bA BK101.out) hb); have n1_ := am (blk_below (bA BK102.out) hb); have n2_ := am (below_step (bB HB.out) hb); have n3_ := am (hbox); have n4_ := am ((by rw [hg]; exact (below_size (bB HB.out)) : w.heap.size ≤ gb104)); have n5_ := am ((by rw [hg]; exact (below_size (bB HB.out)) : w.heap.size ≤ gb104)); have n6_ := am ((by rw [hg]; exact Nat.ne_of_lt (blk_lt (g := gb101) (o := .cells #[.int .i64 a0_0, .slice (some ad103) l0_1.length c0_1, .slice A0_2 l0_2.length c0_2] 35 (0, 0)) (bA BK101.out)) : gb101 ≠ gb104)); have n7_ := am ((by rw [hg]; exact Nat.ne_of_gt (blk_lt (g := gb101) (o := .cells #[.int .i64 a0_0, .slice (some ad103) l0_1.length c0_1, .slice A0_2 l0_2.length c0_2] 35 (0, 0)) (bA BK101.out)) : gb104 ≠ gb101)); have n8_ := am ((by rw [hg]; exact Nat.ne_of_lt (blk_lt (g := gb102) (o := .cells #[.int .i64 x103000_2] 3 (0, 0)) (bA BK102.out)) : gb102 ≠ gb104)); have n9_ := am ((by rw [hg]; exact Nat.ne_of_gt (blk_lt (g := gb102) (o := .cells #[.int .i64 x103000_2] 3 (0, 0)) (bA BK102.out)) : gb104 ≠ gb102)); clear BK101; clear BK102; clear HB; have BK101 := n0_; have BK102 := n1_; have HB := n2_; have BK104 := n3_; have GW104 := n4_; have GE104 := n5_; have NB101_104 := n6_; have NB104_101 := n7_; have NB102_104 := n8_; have NB104_102 := n9_; clear n0_ n1_ n2_ n3_ n4_ n5_ n6_ n7_ n8_ n9_; clear hb hbox hg; have hnb31 := NB104_101.out; have hnc31 := NB101_104.out; have hnb32 := NB104_102.out; have hnc32 := NB102_104.out; have hcz33_0 : w30.cell? ⟨gb104, 0, none⟩ = some (.int .i64 0) := (blk_cell BK104.out 0).trans rfl; have hcz33_1 : w30.cell? ⟨gb104, 1, none⟩ = some (.int .i64 0) := (blk_cell BK104.out 1).trans rfl; have hcz33_2 : w30.cell? ⟨gb104, 2, none⟩ = some (.int .i64 0) := (blk_cell BK104.out 2).trans rfl; have hcz33_3 : w30.cell? ⟨gb104, 3, none⟩ = some (.int .i64 0) := (blk_cell BK104.out 3).trans rfl; have hcz33_4 : w30.cell? ⟨gb104, 4, none⟩ = some (.int .i64 0) := (blk_cell BK104.out 4).trans rfl; have hcz33_5 : w30.cell? ⟨gb104, 5, none⟩ = some (.int .i64 0) := (blk_cell BK104.out 5).trans rfl; have hcz33_6 : w30.cell? ⟨gb104, 6, none⟩ = some (.int .i64 0) := (blk_cell BK104.out 6).trans rfl; have hcz33_7 : w30.cell? ⟨gb104, 7, none⟩ = some (.int .i64 0) := (blk_cell BK104.out 7).trans rfl; have hcz33_8 : w30.cell? ⟨gb104, 8, none⟩ = some (.int .i64 0) := (blk_cell BK104.out 8).trans rfl; have hcz33_9 : w30.cell? ⟨gb104, 9, none⟩ = some (.int .i64 0) := (blk_cell BK104.out 9).trans rfl; have hcz33_10 : w30.cell? ⟨gb104, 10, none⟩ = some (.int .i64 0) := (blk_cell BK104.out 10).trans rfl; have hfz33_0 := blk_frozen BK104.out 0; have hfz33_1 := blk_frozen BK104.out 1; have hfz33_2 := blk_frozen BK104.out 2; have hfz33_3 := blk_frozen BK104.out 3; have hfz33_4 := blk_frozen BK104.out 4; have hfz33_5 := blk_frozen BK104.out 5; have hfz33_6 := blk_frozen BK104.out 6; have hfz33_7 := blk_frozen BK104.out 7; have hfz33_8 := blk_frozen BK104.out 8; have hfz33_9 := blk_frozen BK104.out 9; have hfz33_10 := blk_frozen BK104.out 10) | ((with_reducible refine gate_callee (f := 58) rfl ?_); refine goesL_ (some 38) rfl rfl Try.func58 (by kernel_rfl) rfl #[.agg #[.int .i64 ((rd_T46 l0_1 x32_2).f0.f0), .int .i64 ((rd_T46 l0_1 x32_2).f0.f1), .int .i64 ((rd_T46 l0_1 x32_2).f0.f2), .int .i64 ((rd_T46 l0_1 x32_2).f0.f3), .int .i64 ((rd_T46 l0_1 x32_2).f0.f4), .int .i64 ((rd_T46 l0_1 x32_2).f0.f5), .int .i64 ((rd_T46 l0_1 x32_2).f0.f6), .int .i64 ((rd_T46 l0_1 x32_2).f0.f7), .int .i64 ((rd_T46 l0_1 x32_2).f0.f8)]] rfl bE ?_; (with_reducible refine (impl_IsTable.calls ((rd_T46 l0_1 x32_2).f0.f0) ((rd_T46 l0_1 x32_2).f0.f1) ((rd_T46 l0_1 x32_2).f0.f2) ((rd_T46 l0_1 x32_2).f0.f3) ((rd_T46 l0_1 x32_2).f0.f4) ((rd_T46 l0_1 x32_2).f0.f5) ((rd_T46 l0_1 x32_2).f0.f6) ((rd_T46 l0_1 x32_2).f0.f7) ((rd_T46 l0_1 x32_2).f0.f8) true _ A20.out).mono ?_); rintro e w34 ⟨rfl, hb⟩; refine ⟨_, rfl, ?_⟩; have n0_ := am (blk_below (g := gb101) (o := .cells #[.int .i64 a0_0, .slice (some ad103) l0_1.length c0_1, .slice A0_2 l0_2.length c0_2] 35 (0, 0)) (by (with_reducible repeat (first | refine blk_drewN ?_ _ | refine blk_drew ?_ | refine blk_alloc ?_ _)); refine blk_far ?_ NB101_104.out _; (with_reducible repeat (first | refine blk_drewN ?_ _ | refine blk_drew ?_ | refine blk_alloc ?_ _)); refine blk_far ?_ NB101_104.out _; (with_reducible repeat (first | refine blk_drewN ?_ _ | refine blk_drew ?_ | refine blk_alloc ?_ _)); refine blk_far ?_ NB101_104.out _; (with_reducible repeat (first | refine blk_drewN ?_ _ | refine blk_drew ?_ | refine blk_alloc ?_ _)); refine blk_far ?_ NB101_104.out _; (with_reducible repeat (first | refine blk_drewN ?_ _ | refine blk_drew ?_ | refine blk_alloc ?_ _)); refine blk_far ?_ NB101_104.out _; (with_reducible repeat (first | refine blk_drewN ?_ _ | refine blk_drew ?_ | refine blk_alloc ?_ _)); refine blk_far ?_ NB101_104.out _; (with_reducible repeat (first | refine blk_drewN ?_ _ | refine blk_drew ?_ | refine blk_alloc ?_ _)); refine blk_far ?_ NB101_104.out _; (with_reducible repeat (first | refine blk_drewN ?_ _ | refine blk_drew ?_ | refine blk_alloc ?_ _)); refine blk_far ?_ NB101_104.out _; (with_reducible repeat (first | refine blk_drewN ?_ _ | refine blk_drew ?_ | refine blk_alloc ?_ _)); refine blk_far ?_ NB101_104.out _; (with_reducible repeat (first | refine blk_drewN ?_ _ | refine blk_drew ?_ | refine blk_alloc ?_ _)); refine blk_far ?_ NB101_104.out _; (with_reducible repeat (first | refine blk_drewN ?_ _ | refine blk_drew ?_ | refine blk_alloc ?_ _)); refine blk_far ?_ NB101_104.out _; (with_reducible repeat (first | refine blk_drewN ?_ _ | refine blk_drew ?_ | refine blk_alloc ?_ _)); exact BK101.out) hb); have n1_ := am (blk_below (g := gb102) (o := .cells #[.int .i64 x103000_2] 3 (0, 0)) (by (with_reducible repeat (first | refine blk_drewN ?_ _ | refine blk_drew ?_ | refine blk_alloc ?_ _)); refine blk_far ?_ NB102_104.out _; (with_reducible repeat (first | refine blk_drewN ?_ _ | refine blk_drew ?_ | refine blk_alloc ?_ _)); refine blk_far ?_ NB102_104.out _; (with_reducible repeat (first | refine blk_drewN ?_ _ | refine blk_drew ?_ | refine blk_alloc ?_ _)); refine blk_far ?_ NB102_104.out _; (with_reducible repeat (first | refine blk_drewN ?_ _ | refine blk_drew ?_ | refine blk_alloc ?_ _)); refine blk_far ?_ NB102_104.out _; (with_reducible repeat (first | refine blk_drewN ?_ _ | refine blk_drew ?_ | refine blk_alloc ?_ _)); refine blk_far ?_ NB102_104.out _; (with_reducible repeat (first | refine blk_drewN ?_ _ | refine blk_drew ?_ | refine blk_alloc ?_ _)); refine blk_far ?_ NB102_104.out _; (with_reducible repeat (first | refine blk_drewN ?_ _ | refine blk_drew ?_ | refine blk_alloc ?_ _)); refine blk_far ?_ NB102_104.out _; (with_reducible repeat (first | refine blk_drewN ?_ _ | refine blk_drew ?_ | refine blk_alloc ?_ _)); refine blk_far ?_ NB102_104.out _; (with_reducible repeat (first | refine blk_drewN ?_ _ | refine blk_drew ?_ | refine blk_alloc ?_ _)); refine blk_far ?_ NB102_104.out _; (with_reducible repeat (first | refine blk_drewN ?_ _ | refine blk_drew ?_ | refine blk_alloc ?_ _)); refine blk_far ?_ NB102_104.out _; (with_reducible repeat (first | refine blk_drewN ?_ _ | refine blk_drew ?_ | refine blk_alloc ?_ _)); refine blk_far ?_ NB102_104.out _; (with_reducible repeat (first | refine blk_drewN ?_ _ | refine blk_drew ?_ | refine blk_alloc ?_ _)); exact BK102.out) hb); have n2_ := am (blk_below (g := gb104) (o := .cells #[.int .i64 ((rd_T46 l0_1 x32_2).f0.f0), .int .i64 ((rd_T46 l0_1 x32_2).f0.f1), .int .i64 ((rd_T46 l0_1 x32_2).f0.f2), .int .i64 ((rd_T46 l0_1 x32_2).f0.f3), .int .i64 ((rd_T46 l0_1 x32_2).f0.f4), .int .i64 ((rd_T46 l0_1 x32_2).f0.f5), .int .i64 ((rd_T46 l0_1 x32_2).f0.f6), .int .i64 ((rd_T46 l0_1 x32_2).f0.f7), .int .i64 ((rd_T46 l0_1 x32_2).f0.f8), .int .i64 ((rd_T46 l0_1 x32_2).f1), .int .i64 ((rd_T46 l0_1 x32_2).f2)] 46 (0, 0)) (by (with_reducible repeat (first | refine blk_drewN ?_ _ | refine blk_drew ?_ | refine blk_alloc ?_ _)); refine blk_put (cs := #[.int .i64 ((rd_T46 l0_1 x32_2).f0.f0), .int .i64 ((rd_T46 l0_1 x32_2).f0.f1), .int .i64 ((rd_T46 l0_1 x32_2).f0.f2), .int .i64 ((rd_T46 l0_1 x32_2).f0.f3), .int .i64 ((rd_T46 l0_1 x32_2).f0.f4), .int .i64 ((rd_T46 l0_1 x32_2).f0.f5), .int .i64 ((rd_T46 l0_1 x32_2).f0.f6), .int .i64 ((rd_T46 l0_1 x32_2).f0.f7), .int .i64 ((rd_T46 l0_1 x32_2).f0.f8), .int .i64 ((rd_T46 l0_1 x32_2).f1), .int .i64 0]) ?_ 10 _ rfl; (with_reducible repeat (first | refine blk_drewN ?_ _ | refine blk_drew ?_ | refine blk_alloc ?_ _)); refine blk_put (cs := #[.int .i64 ((rd_T46 l0_1 x32_2).f0.f0), .int .i64 ((rd_T46 l0_1 x32_2).f0.f1), .int .i64 ((rd_T46 l0_1 x32_2).f0.f2), .int .i64 ((rd_T46 l0_1 x32_2).f0.f3), .int .i64 ((rd_T46 l0_1 x32_2).f0.f4), .int .i64 ((rd_T46 l0_1 x32_2).f0.f5), .int .i64 ((rd_T46 l0_1 x32_2).f0.f6), .int .i64 ((rd_T46 l0_1 x32_2).f0.f7), .int .i64 ((rd_T46 l0_1 x32_2).f0.f8), .int .i64 0, .int .i64 0]) ?_ 9 _ rfl; (with_reducible repeat (first | refine blk_drewN ?_ _ | refine blk_drew ?_ | refine blk_alloc ?_ _)); refine blk_put (cs := #[.int .i64 ((rd_T46 l0_1 x32_2).f0.f0), .int .i64 ((rd_T46 l0_1 x32_2).f0.f1), .int .i64 ((rd_T46 l0_1 x32_2).f0.f2), .int .i64 ((rd_T46 l0_1 x32_2).f0.f3), .int .i64 ((rd_T46 l0_1 x32_2).f0.f4), .int .i64 ((rd_T46 l0_1 x32_2).f0.f5), .int .i64 ((rd_T46 l0_1 x32_2).f0.f6), .int .i64 ((rd_T46 l0_1 x32_2).f0.f7), .int .i64 0, .int .i64 0, .int .i64 0]) ?_ 8 _ rfl; (with_reducible repeat (first | refine blk_drewN ?_ _ | refine blk_drew ?_ | refine blk_alloc ?_ _)); refine blk_put (cs := #[.int .i64 ((rd_T46 l0_1 x32_2).f0.f0), .int .i64 ((rd_T46 l0_1 x32_2).f0.f1), .int .i64 ((rd_T46 l0_1 x32_2).f0.f2), .int .i64 ((rd_T46 l0_1 x32_2).f0.f3), .int .i64 ((rd_T46 l0_1 x32_2).f0.f4), .int .i64 ((rd_T46 l0_1 x32_2).f0.f5), .int .i64 ((rd_T46 l0_1 x32_2).f0.f6), .int .i64 0, .int .i64 0, .int .i64 0, .int .i64 0]) ?_ 7 _ rfl; (with_reducible repeat (first | refine blk_drewN ?_ _ | refine blk_drew ?_ | refine blk_alloc ?_ _)); refine blk_put (cs := #[.int .i64 ((rd_T46 l0_1 x32_2).f0.f0), .int .i64 ((rd_T46 l0_1 x32_2).f0.f1), .int .i64 ((rd_T46 l0_1 x32_2).f0.f2), .int .i64 ((rd_T46 l0_1 x32_2).f0.f3), .int .i64 ((rd_T46 l0_1 x32_2).f0.f4), .int .i64 ((rd_T46 l0_1 x32_2).f0.f5), .int .i64 0, .int .i64 0, .int .i64 0, .int .i64 0, .int .i64 0]) ?_ 6 _ rfl; (with_reducible repeat (first | refine blk_drewN ?_ _ | refine blk_drew ?_ | refine blk_alloc ?_ _)); refine blk_put (cs := #[.int .i64 ((rd_T46 l0_1 x32_2).f0.f0), .int .i64 ((rd_T46 l0_1 x32_2).f0.f1), .int .i64 ((rd_T46 l0_1 x32_2).f0.f2), .int .i64 ((rd_T46 l0_1 x32_2).f0.f3), .int .i64 ((rd_T46 l0_1 x32_2).f0.f4), .int .i64 0, .int .i64 0, .int .i64 0, .int .i64 0, .int .i64 0, .int .i64 0]) ?_ 5 _ rfl; (with_reducible repeat (first | refine blk_drewN ?_ _ | refine blk_drew ?_ | refine blk_alloc ?_ _)); refine blk_put (cs := #[.int .i64 ((rd_T46 l0_1 x32_2).f0.f0), .int .i64 ((rd_T46 l0_1 x32_2).f0.f1), .int .i64 ((rd_T46 l0_1 x32_2).f0.f2), .int .i64 ((rd_T46 l0_1 x32_2).f0.f3), .int .i64 0, .int .i64 0, .int .i64 0, .int .i64 0, .int .i64 0, .int .i64 0, .int .i64 0]) ?_ 4 _ rfl; (with_reducible repeat (first | refine blk_drewN ?_ _ | refine blk_drew ?_ | refine blk_alloc ?_ _)); refine blk_put (cs := #[.int .i64 ((rd_T46 l0_1 x32_2).f0.f0), .int .i64 ((rd_T46 l0_1 x32_2).f0.f1), .int .i64 ((rd_T46 l0_1 x32_2).f0.f2), .int .i64 0, .int .i64 0, .int .i64 0, .int .i64 0, .int .i64 0, .int .i64 0, .int .i64 0, .int .i64 0]) ?_ 3 _ rfl; (with_reducible repeat (first | refine blk_drewN ?_ _ | refine blk_drew ?_ | refine blk_alloc ?_ _)); refine blk_put (cs := #[.int .i64 ((rd_T46 l0_1 x32_2).f0.f0), .int .i64 ((rd_T46 l0_1 x32_2).f0.f1), .int .i64 0, .int .i64 0, .int .i64 0, .int .i64 0, .int .i64 0, .int .i64 0, .int .i64 0, .int .i64 0, .int .i64 0]) ?_ 2 _ rfl; (with_reducible repeat (first | refine blk_drewN ?_ _ | refine blk_drew ?_ | refine blk_alloc ?_ _)); refine blk_put (cs := #[.int .i64 ((rd_T46 l0_1 x32_2).f0.f0), .int .i64 0, .int .i64 0, .int .i64 0, .int .i64 0, .int .i64 0, .int .i64 0, .int .i64 0, .int .i64 0, .int .i64 0, .int .i64 0]) ?_ 1 _ rfl; (with_reducible repeat (first | refine blk_drewN ?_ _ | refine blk_drew ?_ | refine blk_alloc ?_ _)); refine blk_put (cs := #[.int .i64 0, .int .i64 0, .int .i64 0, .int .i64 0, .int .i64 0, .int .i64 0, .int .i64 0, .int .i64 0, .int .i64 0, .int .i64 0, .int .i64 0]) ?_ 0 _ rfl; (with_reducible repeat (first | refine blk_drewN ?_ _ | refine blk_drew ?_ | refine blk_alloc ?_ _)); exact BK104.out) hb); have n3_ := am (below_step (bB HB.out) hb); clear BK101; clear BK102; clear BK104; clear HB; have BK101 := n0_; have BK102 := n1_; have BK104 := n2_; have HB := n3_; clear n0_ n1_ n2_ n3_; (try clear hb); (try clear hb2); (try clear hk); (try clear hi); have hcz35_0 : w34.cell? ⟨gb104, 0, none⟩ = some (.int .i64 ((rd_T46 l0_1 x32_2).f0.f0)) := (blk_cell BK104.out 0).trans rfl; have hcz35_1 : w34.cell? ⟨gb104, 1, none⟩ = some (.int .i64 ((rd_T46 l0_1 x32_2).f0.f1)) := (blk_cell BK104.out 1).trans rfl; have hcz35_2 : w34.cell? ⟨gb104, 2, none⟩ = some (.int .i64 ((rd_T46 l0_1 x32_2).f0.f2)) := (blk_cell BK104.out 2).trans rfl; have hcz35_3 : w34.cell? ⟨gb104, 3, none⟩ = some (.int .i64 ((rd_T46 l0_1 x32_2).f0.f3)) := (blk_cell BK104.out 3).trans rfl; have hcz35_4 : w34.cell? ⟨gb104, 4, none⟩ = some (.int .i64 ((rd_T46 l0_1 x32_2).f0.f4)) := (blk_cell BK104.out 4).trans rfl; have hcz35_5 : w34.cell? ⟨gb104, 5, none⟩ = some (.int .i64 ((rd_T46 l0_1 x32_2).f0.f5)) := (blk_cell BK104.out 5).trans rfl; have hcz35_6 : w34.cell? ⟨gb104, 6, none⟩ = some (.int .i64 ((rd_T46 l0_1 x32_2).f0.f6)) := (blk_cell BK104.out 6).trans rfl; have hcz35_7 : w34.cell? ⟨gb104, 7, none⟩ = some (.int .i64 ((rd_T46 l0_1 x32_2).f0.f7)) := (blk_cell BK104.out 7).trans rfl; have hcz35_8 : w34.cell? ⟨gb104, 8, none⟩ = some (.int .i64 ((rd_T46 l0_1 x32_2).f0.f8)) := (blk_cell BK104.out 8).trans rfl; have hcz35_9 : w34.cell? ⟨gb104, 9, none⟩ = some (.int .i64 ((rd_T46 l0_1 x32_2).f1)) := (blk_cell BK104.out 9).trans rfl; have hcz35_10 : w34.cell? ⟨gb104, 10, none⟩ = some (.int .i64 ((rd_T46 l0_1 x32_2).f2)) := (blk_cell BK104.out 10).trans rfl; have hfz35_0 := blk_frozen BK104.out 0; have hfz35_1 := blk_frozen BK104.out 1; have hfz35_2 := blk_frozen BK104.out 2; have hfz35_3 := blk_frozen BK104.out 3; have hfz35_4 := blk_frozen BK104.out 4; have hfz35_5 := blk_frozen BK104.out 5; have hfz35_6 := blk_frozen BK104.out 6; have hfz35_7 := blk_frozen BK104.out 7; have hfz35_8 := blk_frozen BK104.out 8; have hfz35_9 := blk_frozen BK104.out 9; have hfz35_10 := blk_frozen BK104.out 10; have hnb36 := NB102_101.out; have hnc36 := NB101_102.out; have hcz37_0 : w34.cell? ⟨gb102, 0, none⟩ = some (.int .i64 x103000_2) := (blk_cell BK102.out 0).trans rfl; have hfz37_0 := blk_frozen BK102.out 0))
            go_ret
            exact ⟨by first | rfl | (simp [errW_none, errW_some] <;> rfl) | (simp [*, errW_none, errW_some] <;> rfl), bB HB.out⟩
           ·rw [if_neg c29] at H
            have c29b0 : decide (x103000_2 ≤ ((rd_T46 l0_1 x32_2).f1)) = false := decide_eq_false c29
            clear c29
            by_cases c38 : ((rd_T46 l0_1 x32_2).f2) < 0
            ·rw [if_pos c38] at H
             have c38b0 : decide (((rd_T46 l0_1 x32_2).f2) < 0) = true := decide_eq_true c38
             clear c38
             obtain rfl := Option.some.inj H
             have p103 : 0 ≤ (x32_2 : Int) := of_decide_eq_true (by assumption)
             have q103 : x32_2 < (l0_1.length : Int) := of_decide_eq_true (by assumption)
             obtain ⟨ad103, e103, hx103_0, hx103_1, hx103_2, hx103_3, hx103_4, hx103_5, hx103_6, hx103_7, hx103_8, hx103_9, hx103_10⟩ := at_T46 HR0_1.out x32_2 p103 q103
             cases e103
             replace hx103_0 := (HB.out.cell (World.block_lt_of_cell? w _ hx103_0)).trans hx103_0
             replace hx103_1 := (HB.out.cell (World.block_lt_of_cell? w _ hx103_1)).trans hx103_1
             replace hx103_2 := (HB.out.cell (World.block_lt_of_cell? w _ hx103_2)).trans hx103_2
             replace hx103_3 := (HB.out.cell (World.block_lt_of_cell? w _ hx103_3)).trans hx103_3
             replace hx103_4 := (HB.out.cell (World.block_lt_of_cell? w _ hx103_4)).trans hx103_4
             replace hx103_5 := (HB.out.cell (World.block_lt_of_cell? w _ hx103_5)).trans hx103_5
             replace hx103_6 := (HB.out.cell (World.block_lt_of_cell? w _ hx103_6)).trans hx103_6
             replace hx103_7 := (HB.out.cell (World.block_lt_of_cell? w _ hx103_7)).trans hx103_7
             replace hx103_8 := (HB.out.cell (World.block_lt_of_cell? w _ hx103_8)).trans hx103_8
             replace hx103_9 := (HB.out.cell (World.block_lt_of_cell? w _ hx103_9)).trans hx103_9
             replace hx103_10 := (HB.out.cell (World.block_lt_of_cell? w _ hx103_10)).trans hx103_10
             replace p103 := eq_true p103
             replace q103 := eq_true q103
             go_wp2_with (first | ((with_reducible refine gate_dst (N := 5) rfl ?_); (try (refine gate_guard (by rfl) ?_; dsimp only)); refine box_event ?hg (N := 5) ?hd (cs := #[.int .i64 0, .int .i64 0, .int .i64 0, .int .i64 0, .int .i64 0, .int .i64 0, .int .i64 0, .int .i64 0, .int .i64 0, .int .i64 0, .int .i64 0]) (t := 46) ?hr ?_; (case hd => rfl); (case hg => rfl); (case hr => first | (go_simp; done) | (go_simp; rfl)); intro gb104 hg w39 hbox hb; have n0_ := am (blk_below (bA BK101.out) hb); have n1_ := am (blk_below (bA BK102.out) hb); have n2_ := am (below_step (bB HB.out) hb); have n3_ := am (hbox); have n4_ := am ((by rw [hg]; exact (below_size (bB HB.out)) : w.heap.size ≤ gb104)); have n5_ := am ((by rw [hg]; exact (below_size (bB HB.out)) : w.heap.size ≤ gb104)); have n6_ := am ((by rw [hg]; exact Nat.ne_of_lt (blk_lt (g := gb101) (o := .cells #[.int .i64 a0_0, .slice (some ad103) l0_1.length c0_1, .slice A0_2 l0_2.length c0_2] 35 (0, 0)) (bA BK101.out)) : gb101 ≠ gb104)); have n7_ := am ((by rw [hg]; exact Nat.ne_of_gt (blk_lt (g := gb101) (o := .cells #[.int .i64 a0_0, .slice (some ad103) l0_1.length c0_1, .slice A0_2 l0_2.length c0_2] 35 (0, 0)) (bA BK101.out)) : gb104 ≠ gb101)); have n8_ := am ((by rw [hg]; exact Nat.ne_of_lt (blk_lt (g := gb102) (o := .cells #[.int .i64 x103000_2] 3 (0, 0)) (bA BK102.out)) : gb102 ≠ gb104)); have n9_ := am ((by rw [hg]; exact Nat.ne_of_gt (blk_lt (g := gb102) (o := .cells #[.int .i64 x103000_2] 3 (0, 0)) (bA BK102.out)) : gb104 ≠ gb102)); clear BK101; clear BK102; clear HB; have BK101 := n0_; have BK102 := n1_; have HB := n2_; have BK104 := n3_; have GW104 := n4_; have GE104 := n5_; have NB101_104 := n6_; have NB104_101 := n7_; have NB102_104 := n8_; have NB104_102 := n9_; clear n0_ n1_ n2_ n3_ n4_ n5_ n6_ n7_ n8_ n9_; clear hb hbox hg; have hnb40 := NB104_101.out; have hnc40 := NB101_104.out; have hnb41 := NB104_102.out; have hnc41 := NB102_104.out; have hcz42_0 : w39.cell? ⟨gb104, 0, none⟩ = some (.int .i64 0) := (blk_cell BK104.out 0).trans rfl; have hcz42_1 : w39.cell? ⟨gb104, 1, none⟩ = some (.int .i64 0) := (blk_cell BK104.out 1).trans rfl; have hcz42_2 : w39.cell? ⟨gb104, 2, none⟩ = some (.int .i64 0) := (blk_cell BK104.out 2).trans rfl; have hcz42_3 : w39.cell? ⟨gb104, 3, none⟩ = some (.int .i64 0) := (blk_cell BK104.out 3).trans rfl; have hcz42_4 : w39.cell? ⟨gb104, 4, none⟩ = some (.int .i64 0) := (blk_cell BK104.out 4).trans rfl; have hcz42_5 : w39.cell? ⟨gb104, 5, none⟩ = some (.int .i64 0) := (blk_cell BK104.out 5).trans rfl; have hcz42_6 : w39.cell? ⟨gb104, 6, none⟩ = some (.int .i64 0) := (blk_cell BK104.out 6).trans rfl; have hcz42_7 : w39.cell? ⟨gb104, 7, none⟩ = some (.int .i64 0) := (blk_cell BK104.out 7).trans rfl; have hcz42_8 : w39.cell? ⟨gb104, 8, none⟩ = some (.int .i64 0) := (blk_cell BK104.out 8).trans rfl; have hcz42_9 : w39.cell? ⟨gb104, 9, none⟩ = some (.int .i64 0) := (blk_cell BK104.out 9).trans rfl; have hcz42_10 : w39.cell? ⟨gb104, 10, none⟩ = some (.int .i64 0) := (blk_cell BK104.out 10).trans rfl; have hfz42_0 := blk_frozen BK104.out 0; have hfz42_1 := blk_frozen BK104.out 1; have hfz42_2 := blk_frozen BK104.out 2; have hfz42_3 := blk_frozen BK104.out 3; have hfz42_4 := blk_frozen BK104.out 4; have hfz42_5 := blk_frozen BK104.out 5; have hfz42_6 := blk_frozen BK104.out 6; have hfz42_7 := blk_frozen BK104.out 7; have hfz42_8 := blk_frozen BK104.out 8; have hfz42_9 := blk_frozen BK104.out 9; have hfz42_10 := blk_frozen BK104.out 10) | ((with_reducible refine gate_callee (f := 58) rfl ?_); refine goesL_ (some 38) rfl rfl Try.func58 (by kernel_rfl) rfl #[.agg #[.int .i64 ((rd_T46 l0_1 x32_2).f0.f0), .int .i64 ((rd_T46 l0_1 x32_2).f0.f1), .int .i64 ((rd_T46 l0_1 x32_2).f0.f2), .int .i64 ((rd_T46 l0_1 x32_2).f0.f3), .int .i64 ((rd_T46 l0_1 x32_2).f0.f4), .int .i64 ((rd_T46 l0_1 x32_2).f0.f5), .int .i64 ((rd_T46 l0_1 x32_2).f0.f6), .int .i64 ((rd_T46 l0_1 x32_2).f0.f7), .int .i64 ((rd_T46 l0_1 x32_2).f0.f8)]] rfl bE ?_; (with_reducible refine (impl_IsTable.calls ((rd_T46 l0_1 x32_2).f0.f0) ((rd_T46 l0_1 x32_2).f0.f1) ((rd_T46 l0_1 x32_2).f0.f2) ((rd_T46 l0_1 x32_2).f0.f3) ((rd_T46 l0_1 x32_2).f0.f4) ((rd_T46 l0_1 x32_2).f0.f5) ((rd_T46 l0_1 x32_2).f0.f6) ((rd_T46 l0_1 x32_2).f0.f7) ((rd_T46 l0_1 x32_2).f0.f8) true _ A20.out).mono ?_); rintro e w43 ⟨rfl, hb⟩; refine ⟨_, rfl, ?_⟩; have n0_ := am (blk_below (g := gb101) (o := .cells #[.int .i64 a0_0, .slice (some ad103) l0_1.length c0_1, .slice A0_2 l0_2.length c0_2] 35 (0, 0)) (by (with_reducible repeat (first | refine blk_drewN ?_ _ | refine blk_drew ?_ | refine blk_alloc ?_ _)); refine blk_far ?_ NB101_104.out _; (with_reducible repeat (first | refine blk_drewN ?_ _ | refine blk_drew ?_ | refine blk_alloc ?_ _)); refine blk_far ?_ NB101_104.out _; (with_reducible repeat (first | refine blk_drewN ?_ _ | refine blk_drew ?_ | refine blk_alloc ?_ _)); refine blk_far ?_ NB101_104.out _; (with_reducible repeat (first | refine blk_drewN ?_ _ | refine blk_drew ?_ | refine blk_alloc ?_ _)); refine blk_far ?_ NB101_104.out _; (with_reducible repeat (first | refine blk_drewN ?_ _ | refine blk_drew ?_ | refine blk_alloc ?_ _)); refine blk_far ?_ NB101_104.out _; (with_reducible repeat (first | refine blk_drewN ?_ _ | refine blk_drew ?_ | refine blk_alloc ?_ _)); refine blk_far ?_ NB101_104.out _; (with_reducible repeat (first | refine blk_drewN ?_ _ | refine blk_drew ?_ | refine blk_alloc ?_ _)); refine blk_far ?_ NB101_104.out _; (with_reducible repeat (first | refine blk_drewN ?_ _ | refine blk_drew ?_ | refine blk_alloc ?_ _)); refine blk_far ?_ NB101_104.out _; (with_reducible repeat (first | refine blk_drewN ?_ _ | refine blk_drew ?_ | refine blk_alloc ?_ _)); refine blk_far ?_ NB101_104.out _; (with_reducible repeat (first | refine blk_drewN ?_ _ | refine blk_drew ?_ | refine blk_alloc ?_ _)); refine blk_far ?_ NB101_104.out _; (with_reducible repeat (first | refine blk_drewN ?_ _ | refine blk_drew ?_ | refine blk_alloc ?_ _)); refine blk_far ?_ NB101_104.out _; (with_reducible repeat (first | refine blk_drewN ?_ _ | refine blk_drew ?_ | refine blk_alloc ?_ _)); exact BK101.out) hb); have n1_ := am (blk_below (g := gb102) (o := .cells #[.int .i64 x103000_2] 3 (0, 0)) (by (with_reducible repeat (first | refine blk_drewN ?_ _ | refine blk_drew ?_ | refine blk_alloc ?_ _)); refine blk_far ?_ NB102_104.out _; (with_reducible repeat (first | refine blk_drewN ?_ _ | refine blk_drew ?_ | refine blk_alloc ?_ _)); refine blk_far ?_ NB102_104.out _; (with_reducible repeat (first | refine blk_drewN ?_ _ | refine blk_drew ?_ | refine blk_alloc ?_ _)); refine blk_far ?_ NB102_104.out _; (with_reducible repeat (first | refine blk_drewN ?_ _ | refine blk_drew ?_ | refine blk_alloc ?_ _)); refine blk_far ?_ NB102_104.out _; (with_reducible repeat (first | refine blk_drewN ?_ _ | refine blk_drew ?_ | refine blk_alloc ?_ _)); refine blk_far ?_ NB102_104.out _; (with_reducible repeat (first | refine blk_drewN ?_ _ | refine blk_drew ?_ | refine blk_alloc ?_ _)); refine blk_far ?_ NB102_104.out _; (with_reducible repeat (first | refine blk_drewN ?_ _ | refine blk_drew ?_ | refine blk_alloc ?_ _)); refine blk_far ?_ NB102_104.out _; (with_reducible repeat (first | refine blk_drewN ?_ _ | refine blk_drew ?_ | refine blk_alloc ?_ _)); refine blk_far ?_ NB102_104.out _; (with_reducible repeat (first | refine blk_drewN ?_ _ | refine blk_drew ?_ | refine blk_alloc ?_ _)); refine blk_far ?_ NB102_104.out _; (with_reducible repeat (first | refine blk_drewN ?_ _ | refine blk_drew ?_ | refine blk_alloc ?_ _)); refine blk_far ?_ NB102_104.out _; (with_reducible repeat (first | refine blk_drewN ?_ _ | refine blk_drew ?_ | refine blk_alloc ?_ _)); refine blk_far ?_ NB102_104.out _; (with_reducible repeat (first | refine blk_drewN ?_ _ | refine blk_drew ?_ | refine blk_alloc ?_ _)); exact BK102.out) hb); have n2_ := am (blk_below (g := gb104) (o := .cells #[.int .i64 ((rd_T46 l0_1 x32_2).f0.f0), .int .i64 ((rd_T46 l0_1 x32_2).f0.f1), .int .i64 ((rd_T46 l0_1 x32_2).f0.f2), .int .i64 ((rd_T46 l0_1 x32_2).f0.f3), .int .i64 ((rd_T46 l0_1 x32_2).f0.f4), .int .i64 ((rd_T46 l0_1 x32_2).f0.f5), .int .i64 ((rd_T46 l0_1 x32_2).f0.f6), .int .i64 ((rd_T46 l0_1 x32_2).f0.f7), .int .i64 ((rd_T46 l0_1 x32_2).f0.f8), .int .i64 ((rd_T46 l0_1 x32_2).f1), .int .i64 ((rd_T46 l0_1 x32_2).f2)] 46 (0, 0)) (by (with_reducible repeat (first | refine blk_drewN ?_ _ | refine blk_drew ?_ | refine blk_alloc ?_ _)); refine blk_put (cs := #[.int .i64 ((rd_T46 l0_1 x32_2).f0.f0), .int .i64 ((rd_T46 l0_1 x32_2).f0.f1), .int .i64 ((rd_T46 l0_1 x32_2).f0.f2), .int .i64 ((rd_T46 l0_1 x32_2).f0.f3), .int .i64 ((rd_T46 l0_1 x32_2).f0.f4), .int .i64 ((rd_T46 l0_1 x32_2).f0.f5), .int .i64 ((rd_T46 l0_1 x32_2).f0.f6), .int .i64 ((rd_T46 l0_1 x32_2).f0.f7), .int .i64 ((rd_T46 l0_1 x32_2).f0.f8), .int .i64 ((rd_T46 l0_1 x32_2).f1), .int .i64 0]) ?_ 10 _ rfl; (with_reducible repeat (first | refine blk_drewN ?_ _ | refine blk_drew ?_ | refine blk_alloc ?_ _)); refine blk_put (cs := #[.int .i64 ((rd_T46 l0_1 x32_2).f0.f0), .int .i64 ((rd_T46 l0_1 x32_2).f0.f1), .int .i64 ((rd_T46 l0_1 x32_2).f0.f2), .int .i64 ((rd_T46 l0_1 x32_2).f0.f3), .int .i64 ((rd_T46 l0_1 x32_2).f0.f4), .int .i64 ((rd_T46 l0_1 x32_2).f0.f5), .int .i64 ((rd_T46 l0_1 x32_2).f0.f6), .int .i64 ((rd_T46 l0_1 x32_2).f0.f7), .int .i64 ((rd_T46 l0_1 x32_2).f0.f8), .int .i64 0, .int .i64 0]) ?_ 9 _ rfl; (with_reducible repeat (first | refine blk_drewN ?_ _ | refine blk_drew ?_ | refine blk_alloc ?_ _)); refine blk_put (cs := #[.int .i64 ((rd_T46 l0_1 x32_2).f0.f0), .int .i64 ((rd_T46 l0_1 x32_2).f0.f1), .int .i64 ((rd_T46 l0_1 x32_2).f0.f2), .int .i64 ((rd_T46 l0_1 x32_2).f0.f3), .int .i64 ((rd_T46 l0_1 x32_2).f0.f4), .int .i64 ((rd_T46 l0_1 x32_2).f0.f5), .int .i64 ((rd_T46 l0_1 x32_2).f0.f6), .int .i64 ((rd_T46 l0_1 x32_2).f0.f7), .int .i64 0, .int .i64 0, .int .i64 0]) ?_ 8 _ rfl; (with_reducible repeat (first | refine blk_drewN ?_ _ | refine blk_drew ?_ | refine blk_alloc ?_ _)); refine blk_put (cs := #[.int .i64 ((rd_T46 l0_1 x32_2).f0.f0), .int .i64 ((rd_T46 l0_1 x32_2).f0.f1), .int .i64 ((rd_T46 l0_1 x32_2).f0.f2), .int .i64 ((rd_T46 l0_1 x32_2).f0.f3), .int .i64 ((rd_T46 l0_1 x32_2).f0.f4), .int .i64 ((rd_T46 l0_1 x32_2).f0.f5), .int .i64 ((rd_T46 l0_1 x32_2).f0.f6), .int .i64 0, .int .i64 0, .int .i64 0, .int .i64 0]) ?_ 7 _ rfl; (with_reducible repeat (first | refine blk_drewN ?_ _ | refine blk_drew ?_ | refine blk_alloc ?_ _)); refine blk_put (cs := #[.int .i64 ((rd_T46 l0_1 x32_2).f0.f0), .int .i64 ((rd_T46 l0_1 x32_2).f0.f1), .int .i64 ((rd_T46 l0_1 x32_2).f0.f2), .int .i64 ((rd_T46 l0_1 x32_2).f0.f3), .int .i64 ((rd_T46 l0_1 x32_2).f0.f4), .int .i64 ((rd_T46 l0_1 x32_2).f0.f5), .int .i64 0, .int .i64 0, .int .i64 0, .int .i64 0, .int .i64 0]) ?_ 6 _ rfl; (with_reducible repeat (first | refine blk_drewN ?_ _ | refine blk_drew ?_ | refine blk_alloc ?_ _)); refine blk_put (cs := #[.int .i64 ((rd_T46 l0_1 x32_2).f0.f0), .int .i64 ((rd_T46 l0_1 x32_2).f0.f1), .int .i64 ((rd_T46 l0_1 x32_2).f0.f2), .int .i64 ((rd_T46 l0_1 x32_2).f0.f3), .int .i64 ((rd_T46 l0_1 x32_2).f0.f4), .int .i64 0, .int .i64 0, .int .i64 0, .int .i64 0, .int .i64 0, .int .i64 0]) ?_ 5 _ rfl; (with_reducible repeat (first | refine blk_drewN ?_ _ | refine blk_drew ?_ | refine blk_alloc ?_ _)); refine blk_put (cs := #[.int .i64 ((rd_T46 l0_1 x32_2).f0.f0), .int .i64 ((rd_T46 l0_1 x32_2).f0.f1), .int .i64 ((rd_T46 l0_1 x32_2).f0.f2), .int .i64 ((rd_T46 l0_1 x32_2).f0.f3), .int .i64 0, .int .i64 0, .int .i64 0, .int .i64 0, .int .i64 0, .int .i64 0, .int .i64 0]) ?_ 4 _ rfl; (with_reducible repeat (first | refine blk_drewN ?_ _ | refine blk_drew ?_ | refine blk_alloc ?_ _)); refine blk_put (cs := #[.int .i64 ((rd_T46 l0_1 x32_2).f0.f0), .int .i64 ((rd_T46 l0_1 x32_2).f0.f1), .int .i64 ((rd_T46 l0_1 x32_2).f0.f2), .int .i64 0, .int .i64 0, .int .i64 0, .int .i64 0, .int .i64 0, .int .i64 0, .int .i64 0, .int .i64 0]) ?_ 3 _ rfl; (with_reducible repeat (first | refine blk_drewN ?_ _ | refine blk_drew ?_ | refine blk_alloc ?_ _)); refine blk_put (cs := #[.int .i64 ((rd_T46 l0_1 x32_2).f0.f0), .int .i64 ((rd_T46 l0_1 x32_2).f0.f1), .int .i64 0, .int .i64 0, .int .i64 0, .int .i64 0, .int .i64 0, .int .i64 0, .int .i64 0, .int .i64 0, .int .i64 0]) ?_ 2 _ rfl; (with_reducible repeat (first | refine blk_drewN ?_ _ | refine blk_drew ?_ | refine blk_alloc ?_ _)); refine blk_put (cs := #[.int .i64 ((rd_T46 l0_1 x32_2).f0.f0), .int .i64 0, .int .i64 0, .int .i64 0, .int .i64 0, .int .i64 0, .int .i64 0, .int .i64 0, .int .i64 0, .int .i64 0, .int .i64 0]) ?_ 1 _ rfl; (with_reducible repeat (first | refine blk_drewN ?_ _ | refine blk_drew ?_ | refine blk_alloc ?_ _)); refine blk_put (cs := #[.int .i64 0, .int .i64 0, .int .i64 0, .int .i64 0, .int .i64 0, .int .i64 0, .int .i64 0, .int .i64 0, .int .i64 0, .int .i64 0, .int .i64 0]) ?_ 0 _ rfl; (with_reducible repeat (first | refine blk_drewN ?_ _ | refine blk_drew ?_ | refine blk_alloc ?_ _)); exact BK104.out) hb); have n3_ := am (below_step (bB HB.out) hb); clear BK101; clear BK102; clear BK104; clear HB; have BK101 := n0_; have BK102 := n1_; have BK104 := n2_; have HB := n3_; clear n0_ n1_ n2_ n3_; (try clear hb); (try clear hb2); (try clear hk); (try clear hi); have hcz44_0 : w43.cell? ⟨gb104, 0, none⟩ = some (.int .i64 ((rd_T46 l0_1 x32_2).f0.f0)) := (blk_cell BK104.out 0).trans rfl; have hcz44_1 : w43.cell? ⟨gb104, 1, none⟩ = some (.int .i64 ((rd_T46 l0_1 x32_2).f0.f1)) := (blk_cell BK104.out 1).trans rfl; have hcz44_2 : w43.cell? ⟨gb104, 2, none⟩ = some (.int .i64 ((rd_T46 l0_1 x32_2).f0.f2)) := (blk_cell BK104.out 2).trans rfl; have hcz44_3 : w43.cell? ⟨gb104, 3, none⟩ = some (.int .i64 ((rd_T46 l0_1 x32_2).f0.f3)) := (blk_cell BK104.out 3).trans rfl; have hcz44_4 : w43.cell? ⟨gb104, 4, none⟩ = some (.int .i64 ((rd_T46 l0_1 x32_2).f0.f4)) := (blk_cell BK104.out 4).trans rfl; have hcz44_5 : w43.cell? ⟨gb104, 5, none⟩ = some (.int .i64 ((rd_T46 l0_1 x32_2).f0.f5)) := (blk_cell BK104.out 5).trans rfl; have hcz44_6 : w43.cell? ⟨gb104, 6, none⟩ = some (.int .i64 ((rd_T46 l0_1 x32_2).f0.f6)) := (blk_cell BK104.out 6).trans rfl; have hcz44_7 : w43.cell? ⟨gb104, 7, none⟩ = some (.int .i64 ((rd_T46 l0_1 x32_2).f0.f7)) := (blk_cell BK104.out 7).trans rfl; have hcz44_8 : w43.cell? ⟨gb104, 8, none⟩ = some (.int .i64 ((rd_T46 l0_1 x32_2).f0.f8)) := (blk_cell BK104.out 8).trans rfl; have hcz44_9 : w43.cell? ⟨gb104, 9, none⟩ = some (.int .i64 ((rd_T46 l0_1 x32_2).f1)) := (blk_cell BK104.out 9).trans rfl; have hcz44_10 : w43.cell? ⟨gb104, 10, none⟩ = some (.int .i64 ((rd_T46 l0_1 x32_2).f2)) := (blk_cell BK104.out 10).trans rfl; have hfz44_0 := blk_frozen BK104.out 0; have hfz44_1 := blk_frozen BK104.out 1; have hfz44_2 := blk_frozen BK104.out 2; have hfz44_3 := blk_frozen BK104.out 3; have hfz44_4 := blk_frozen BK104.out 4; have hfz44_5 := blk_frozen BK104.out 5; have hfz44_6 := blk_frozen BK104.out 6; have hfz44_7 := blk_frozen BK104.out 7; have hfz44_8 := blk_frozen BK104.out 8; have hfz44_9 := blk_frozen BK104.out 9; have hfz44_10 := blk_frozen BK104.out 10; have hnb45 := NB102_101.out; have hnc45 := NB101_102.out; have hcz46_0 : w43.cell? ⟨gb102, 0, none⟩ = some (.int .i64 x103000_2) := (blk_cell BK102.out 0).trans rfl; have hfz46_0 := blk_frozen BK102.out 0))
             go_ret
             exact ⟨by first | rfl | (simp [errW_none, errW_some] <;> rfl) | (simp [*, errW_none, errW_some] <;> rfl), bB HB.out⟩
            ·rw [if_neg c38] at H
             have c38b0 : decide (((rd_T46 l0_1 x32_2).f2) < 0) = false := decide_eq_false c38
             clear c38
             by_cases c47 : ((rd_T46 l0_1 x32_2).f2) ≥ x103000_2
             ·rw [if_pos c47] at H
              have c47b0 : decide (x103000_2 ≤ ((rd_T46 l0_1 x32_2).f2)) = true := decide_eq_true c47
              clear c47
              obtain rfl := Option.some.inj H
              have p103 : 0 ≤ (x32_2 : Int) := of_decide_eq_true (by assumption)
              have q103 : x32_2 < (l0_1.length : Int) := of_decide_eq_true (by assumption)
              obtain ⟨ad103, e103, hx103_0, hx103_1, hx103_2, hx103_3, hx103_4, hx103_5, hx103_6, hx103_7, hx103_8, hx103_9, hx103_10⟩ := at_T46 HR0_1.out x32_2 p103 q103
              cases e103
              replace hx103_0 := (HB.out.cell (World.block_lt_of_cell? w _ hx103_0)).trans hx103_0
              replace hx103_1 := (HB.out.cell (World.block_lt_of_cell? w _ hx103_1)).trans hx103_1
              replace hx103_2 := (HB.out.cell (World.block_lt_of_cell? w _ hx103_2)).trans hx103_2
              replace hx103_3 := (HB.out.cell (World.block_lt_of_cell? w _ hx103_3)).trans hx103_3
              replace hx103_4 := (HB.out.cell (World.block_lt_of_cell? w _ hx103_4)).trans hx103_4
              replace hx103_5 := (HB.out.cell (World.block_lt_of_cell? w _ hx103_5)).trans hx103_5
              replace hx103_6 := (HB.out.cell (World.block_lt_of_cell? w _ hx103_6)).trans hx103_6
              replace hx103_7 := (HB.out.cell (World.block_lt_of_cell? w _ hx103_7)).trans hx103_7
              replace hx103_8 := (HB.out.cell (World.block_lt_of_cell? w _ hx103_8)).trans hx103_8
              replace hx103_9 := (HB.out.cell (World.block_lt_of_cell? w _ hx103_9)).trans hx103_9
              replace hx103_10 := (HB.out.cell (World.block_lt_of_cell? w _ hx103_10)).trans hx103_10
              replace p103 := eq_true p103
              replace q103 := eq_true q103
              go_wp2_with (first | ((with_reducible refine gate_dst (N := 5) rfl ?_); (try (refine gate_guard (by rfl) ?_; dsimp only)); refine box_event ?hg (N := 5) ?hd (cs := #[.int .i64 0, .int .i64 0, .int .i64 0, .int .i64 0, .int .i64 0, .int .i64 0, .int .i64 0, .int .i64 0, .int .i64 0, .int .i64 0, .int .i64 0]) (t := 46) ?hr ?_; (case hd => rfl); (case hg => rfl); (case hr => first | (go_simp; done) | (go_simp; rfl)); intro gb104 hg w48 hbox hb; have n0_ := am (blk_below (bA BK101.out) hb); have n1_ := am (blk_below (bA BK102.out) hb); have n2_ := am (below_step (bB HB.out) hb); have n3_ := am (hbox); have n4_ := am ((by rw [hg]; exact (below_size (bB HB.out)) : w.heap.size ≤ gb104)); have n5_ := am ((by rw [hg]; exact (below_size (bB HB.out)) : w.heap.size ≤ gb104)); have n6_ := am ((by rw [hg]; exact Nat.ne_of_lt (blk_lt (g := gb101) (o := .cells #[.int .i64 a0_0, .slice (some ad103) l0_1.length c0_1, .slice A0_2 l0_2.length c0_2] 35 (0, 0)) (bA BK101.out)) : gb101 ≠ gb104)); have n7_ := am ((by rw [hg]; exact Nat.ne_of_gt (blk_lt (g := gb101) (o := .cells #[.int .i64 a0_0, .slice (some ad103) l0_1.length c0_1, .slice A0_2 l0_2.length c0_2] 35 (0, 0)) (bA BK101.out)) : gb104 ≠ gb101)); have n8_ := am ((by rw [hg]; exact Nat.ne_of_lt (blk_lt (g := gb102) (o := .cells #[.int .i64 x103000_2] 3 (0, 0)) (bA BK102.out)) : gb102 ≠ gb104)); have n9_ := am ((by rw [hg]; exact Nat.ne_of_gt (blk_lt (g := gb102) (o := .cells #[.int .i64 x103000_2] 3 (0, 0)) (bA BK102.out)) : gb104 ≠ gb102)); clear BK101; clear BK102; clear HB; have BK101 := n0_; have BK102 := n1_; have HB := n2_; have BK104 := n3_; have GW104 := n4_; have GE104 := n5_; have NB101_104 := n6_; have NB104_101 := n7_; have NB102_104 := n8_; have NB104_102 := n9_; clear n0_ n1_ n2_ n3_ n4_ n5_ n6_ n7_ n8_ n9_; clear hb hbox hg; have hnb49 := NB104_101.out; have hnc49 := NB101_104.out; have hnb50 := NB104_102.out; have hnc50 := NB102_104.out; have hcz51_0 : w48.cell? ⟨gb104, 0, none⟩ = some (.int .i64 0) := (blk_cell BK104.out 0).trans rfl; have hcz51_1 : w48.cell? ⟨gb104, 1, none⟩ = some (.int .i64 0) := (blk_cell BK104.out 1).trans rfl; have hcz51_2 : w48.cell? ⟨gb104, 2, none⟩ = some (.int .i64 0) := (blk_cell BK104.out 2).trans rfl; have hcz51_3 : w48.cell? ⟨gb104, 3, none⟩ = some (.int .i64 0) := (blk_cell BK104.out 3).trans rfl; have hcz51_4 : w48.cell? ⟨gb104, 4, none⟩ = some (.int .i64 0) := (blk_cell BK104.out 4).trans rfl; have hcz51_5 : w48.cell? ⟨gb104, 5, none⟩ = some (.int .i64 0) := (blk_cell BK104.out 5).trans rfl; have hcz51_6 : w48.cell? ⟨gb104, 6, none⟩ = some (.int .i64 0) := (blk_cell BK104.out 6).trans rfl; have hcz51_7 : w48.cell? ⟨gb104, 7, none⟩ = some (.int .i64 0) := (blk_cell BK104.out 7).trans rfl; have hcz51_8 : w48.cell? ⟨gb104, 8, none⟩ = some (.int .i64 0) := (blk_cell BK104.out 8).trans rfl; have hcz51_9 : w48.cell? ⟨gb104, 9, none⟩ = some (.int .i64 0) := (blk_cell BK104.out 9).trans rfl; have hcz51_10 : w48.cell? ⟨gb104, 10, none⟩ = some (.int .i64 0) := (blk_cell BK104.out 10).trans rfl; have hfz51_0 := blk_frozen BK104.out 0; have hfz51_1 := blk_frozen BK104.out 1; have hfz51_2 := blk_frozen BK104.out 2; have hfz51_3 := blk_frozen BK104.out 3; have hfz51_4 := blk_frozen BK104.out 4; have hfz51_5 := blk_frozen BK104.out 5; have hfz51_6 := blk_frozen BK104.out 6; have hfz51_7 := blk_frozen BK104.out 7; have hfz51_8 := blk_frozen BK104.out 8; have hfz51_9 := blk_frozen BK104.out 9; have hfz51_10 := blk_frozen BK104.out 10) | ((with_reducible refine gate_callee (f := 58) rfl ?_); refine goesL_ (some 38) rfl rfl Try.func58 (by kernel_rfl) rfl #[.agg #[.int .i64 ((rd_T46 l0_1 x32_2).f0.f0), .int .i64 ((rd_T46 l0_1 x32_2).f0.f1), .int .i64 ((rd_T46 l0_1 x32_2).f0.f2), .int .i64 ((rd_T46 l0_1 x32_2).f0.f3), .int .i64 ((rd_T46 l0_1 x32_2).f0.f4), .int .i64 ((rd_T46 l0_1 x32_2).f0.f5), .int .i64 ((rd_T46 l0_1 x32_2).f0.f6), .int .i64 ((rd_T46 l0_1 x32_2).f0.f7), .int .i64 ((rd_T46 l0_1 x32_2).f0.f8)]] rfl bE ?_; (with_reducible refine (impl_IsTable.calls ((rd_T46 l0_1 x32_2).f0.f0) ((rd_T46 l0_1 x32_2).f0.f1) ((rd_T46 l0_1 x32_2).f0.f2) ((rd_T46 l0_1 x32_2).f0.f3) ((rd_T46 l0_1 x32_2).f0.f4) ((rd_T46 l0_1 x32_2).f0.f5) ((rd_T46 l0_1 x32_2).f0.f6) ((rd_T46 l0_1 x32_2).f0.f7) ((rd_T46 l0_1 x32_2).f0.f8) true _ A20.out).mono ?_); rintro e w52 ⟨rfl, hb⟩; refine ⟨_, rfl, ?_⟩; have n0_ := am (blk_below (g := gb101) (o := .cells #[.int .i64 a0_0, .slice (some ad103) l0_1.length c0_1, .slice A0_2 l0_2.length c0_2] 35 (0, 0)) (by (with_reducible repeat (first | refine blk_drewN ?_ _ | refine blk_drew ?_ | refine blk_alloc ?_ _)); refine blk_far ?_ NB101_104.out _; (with_reducible repeat (first | refine blk_drewN ?_ _ | refine blk_drew ?_ | refine blk_alloc ?_ _)); refine blk_far ?_ NB101_104.out _; (with_reducible repeat (first | refine blk_drewN ?_ _ | refine blk_drew ?_ | refine blk_alloc ?_ _)); refine blk_far ?_ NB101_104.out _; (with_reducible repeat (first | refine blk_drewN ?_ _ | refine blk_drew ?_ | refine blk_alloc ?_ _)); refine blk_far ?_ NB101_104.out _; (with_reducible repeat (first | refine blk_drewN ?_ _ | refine blk_drew ?_ | refine blk_alloc ?_ _)); refine blk_far ?_ NB101_104.out _; (with_reducible repeat (first | refine blk_drewN ?_ _ | refine blk_drew ?_ | refine blk_alloc ?_ _)); refine blk_far ?_ NB101_104.out _; (with_reducible repeat (first | refine blk_drewN ?_ _ | refine blk_drew ?_ | refine blk_alloc ?_ _)); refine blk_far ?_ NB101_104.out _; (with_reducible repeat (first | refine blk_drewN ?_ _ | refine blk_drew ?_ | refine blk_alloc ?_ _)); refine blk_far ?_ NB101_104.out _; (with_reducible repeat (first | refine blk_drewN ?_ _ | refine blk_drew ?_ | refine blk_alloc ?_ _)); refine blk_far ?_ NB101_104.out _; (with_reducible repeat (first | refine blk_drewN ?_ _ | refine blk_drew ?_ | refine blk_alloc ?_ _)); refine blk_far ?_ NB101_104.out _; (with_reducible repeat (first | refine blk_drewN ?_ _ | refine blk_drew ?_ | refine blk_alloc ?_ _)); refine blk_far ?_ NB101_104.out _; (with_reducible repeat (first | refine blk_drewN ?_ _ | refine blk_drew ?_ | refine blk_alloc ?_ _)); exact BK101.out) hb); have n1_ := am (blk_below (g := gb102) (o := .cells #[.int .i64 x103000_2] 3 (0, 0)) (by (with_reducible repeat (first | refine blk_drewN ?_ _ | refine blk_drew ?_ | refine blk_alloc ?_ _)); refine blk_far ?_ NB102_104.out _; (with_reducible repeat (first | refine blk_drewN ?_ _ | refine blk_drew ?_ | refine blk_alloc ?_ _)); refine blk_far ?_ NB102_104.out _; (with_reducible repeat (first | refine blk_drewN ?_ _ | refine blk_drew ?_ | refine blk_alloc ?_ _)); refine blk_far ?_ NB102_104.out _; (with_reducible repeat (first | refine blk_drewN ?_ _ | refine blk_drew ?_ | refine blk_alloc ?_ _)); refine blk_far ?_ NB102_104.out _; (with_reducible repeat (first | refine blk_drewN ?_ _ | refine blk_drew ?_ | refine blk_alloc ?_ _)); refine blk_far ?_ NB102_104.out _; (with_reducible repeat (first | refine blk_drewN ?_ _ | refine blk_drew ?_ | refine blk_alloc ?_ _)); refine blk_far ?_ NB102_104.out _; (with_reducible repeat (first | refine blk_drewN ?_ _ | refine blk_drew ?_ | refine blk_alloc ?_ _)); refine blk_far ?_ NB102_104.out _; (with_reducible repeat (first | refine blk_drewN ?_ _ | refine blk_drew ?_ | refine blk_alloc ?_ _)); refine blk_far ?_ NB102_104.out _; (with_reducible repeat (first | refine blk_drewN ?_ _ | refine blk_drew ?_ | refine blk_alloc ?_ _)); refine blk_far ?_ NB102_104.out _; (with_reducible repeat (first | refine blk_drewN ?_ _ | refine blk_drew ?_ | refine blk_alloc ?_ _)); refine blk_far ?_ NB102_104.out _; (with_reducible repeat (first | refine blk_drewN ?_ _ | refine blk_drew ?_ | refine blk_alloc ?_ _)); refine blk_far ?_ NB102_104.out _; (with_reducible repeat (first | refine blk_drewN ?_ _ | refine blk_drew ?_ | refine blk_alloc ?_ _)); exact BK102.out) hb); have n2_ := am (blk_below (g := gb104) (o := .cells #[.int .i64 ((rd_T46 l0_1 x32_2).f0.f0), .int .i64 ((rd_T46 l0_1 x32_2).f0.f1), .int .i64 ((rd_T46 l0_1 x32_2).f0.f2), .int .i64 ((rd_T46 l0_1 x32_2).f0.f3), .int .i64 ((rd_T46 l0_1 x32_2).f0.f4), .int .i64 ((rd_T46 l0_1 x32_2).f0.f5), .int .i64 ((rd_T46 l0_1 x32_2).f0.f6), .int .i64 ((rd_T46 l0_1 x32_2).f0.f7), .int .i64 ((rd_T46 l0_1 x32_2).f0.f8), .int .i64 ((rd_T46 l0_1 x32_2).f1), .int .i64 ((rd_T46 l0_1 x32_2).f2)] 46 (0, 0)) (by (with_reducible repeat (first | refine blk_drewN ?_ _ | refine blk_drew ?_ | refine blk_alloc ?_ _)); refine blk_put (cs := #[.int .i64 ((rd_T46 l0_1 x32_2).f0.f0), .int .i64 ((rd_T46 l0_1 x32_2).f0.f1), .int .i64 ((rd_T46 l0_1 x32_2).f0.f2), .int .i64 ((rd_T46 l0_1 x32_2).f0.f3), .int .i64 ((rd_T46 l0_1 x32_2).f0.f4), .int .i64 ((rd_T46 l0_1 x32_2).f0.f5), .int .i64 ((rd_T46 l0_1 x32_2).f0.f6), .int .i64 ((rd_T46 l0_1 x32_2).f0.f7), .int .i64 ((rd_T46 l0_1 x32_2).f0.f8), .int .i64 ((rd_T46 l0_1 x32_2).f1), .int .i64 0]) ?_ 10 _ rfl; (with_reducible repeat (first | refine blk_drewN ?_ _ | refine blk_drew ?_ | refine blk_alloc ?_ _)); refine blk_put (cs := #[.int .i64 ((rd_T46 l0_1 x32_2).f0.f0), .int .i64 ((rd_T46 l0_1 x32_2).f0.f1), .int .i64 ((rd_T46 l0_1 x32_2).f0.f2), .int .i64 ((rd_T46 l0_1 x32_2).f0.f3), .int .i64 ((rd_T46 l0_1 x32_2).f0.f4), .int .i64 ((rd_T46 l0_1 x32_2).f0.f5), .int .i64 ((rd_T46 l0_1 x32_2).f0.f6), .int .i64 ((rd_T46 l0_1 x32_2).f0.f7), .int .i64 ((rd_T46 l0_1 x32_2).f0.f8), .int .i64 0, .int .i64 0]) ?_ 9 _ rfl; (with_reducible repeat (first | refine blk_drewN ?_ _ | refine blk_drew ?_ | refine blk_alloc ?_ _)); refine blk_put (cs := #[.int .i64 ((rd_T46 l0_1 x32_2).f0.f0), .int .i64 ((rd_T46 l0_1 x32_2).f0.f1), .int .i64 ((rd_T46 l0_1 x32_2).f0.f2), .int .i64 ((rd_T46 l0_1 x32_2).f0.f3), .int .i64 ((rd_T46 l0_1 x32_2).f0.f4), .int .i64 ((rd_T46 l0_1 x32_2).f0.f5), .int .i64 ((rd_T46 l0_1 x32_2).f0.f6), .int .i64 ((rd_T46 l0_1 x32_2).f0.f7), .int .i64 0, .int .i64 0, .int .i64 0]) ?_ 8 _ rfl; (with_reducible repeat (first | refine blk_drewN ?_ _ | refine blk_drew ?_ | refine blk_alloc ?_ _)); refine blk_put (cs := #[.int .i64 ((rd_T46 l0_1 x32_2).f0.f0), .int .i64 ((rd_T46 l0_1 x32_2).f0.f1), .int .i64 ((rd_T46 l0_1 x32_2).f0.f2), .int .i64 ((rd_T46 l0_1 x32_2).f0.f3), .int .i64 ((rd_T46 l0_1 x32_2).f0.f4), .int .i64 ((rd_T46 l0_1 x32_2).f0.f5), .int .i64 ((rd_T46 l0_1 x32_2).f0.f6), .int .i64 0, .int .i64 0, .int .i64 0, .int .i64 0]) ?_ 7 _ rfl; (with_reducible repeat (first | refine blk_drewN ?_ _ | refine blk_drew ?_ | refine blk_alloc ?_ _)); refine blk_put (cs := #[.int .i64 ((rd_T46 l0_1 x32_2).f0.f0), .int .i64 ((rd_T46 l0_1 x32_2).f0.f1), .int .i64 ((rd_T46 l0_1 x32_2).f0.f2), .int .i64 ((rd_T46 l0_1 x32_2).f0.f3), .int .i64 ((rd_T46 l0_1 x32_2).f0.f4), .int .i64 ((rd_T46 l0_1 x32_2).f0.f5), .int .i64 0, .int .i64 0, .int .i64 0, .int .i64 0, .int .i64 0]) ?_ 6 _ rfl; (with_reducible repeat (first | refine blk_drewN ?_ _ | refine blk_drew ?_ | refine blk_alloc ?_ _)); refine blk_put (cs := #[.int .i64 ((rd_T46 l0_1 x32_2).f0.f0), .int .i64 ((rd_T46 l0_1 x32_2).f0.f1), .int .i64 ((rd_T46 l0_1 x32_2).f0.f2), .int .i64 ((rd_T46 l0_1 x32_2).f0.f3), .int .i64 ((rd_T46 l0_1 x32_2).f0.f4), .int .i64 0, .int .i64 0, .int .i64 0, .int .i64 0, .int .i64 0, .int .i64 0]) ?_ 5 _ rfl; (with_reducible repeat (first | refine blk_drewN ?_ _ | refine blk_drew ?_ | refine blk_alloc ?_ _)); refine blk_put (cs := #[.int .i64 ((rd_T46 l0_1 x32_2).f0.f0), .int .i64 ((rd_T46 l0_1 x32_2).f0.f1), .int .i64 ((rd_T46 l0_1 x32_2).f0.f2), .int .i64 ((rd_T46 l0_1 x32_2).f0.f3), .int .i64 0, .int .i64 0, .int .i64 0, .int .i64 0, .int .i64 0, .int .i64 0, .int .i64 0]) ?_ 4 _ rfl; (with_reducible repeat (first | refine blk_drewN ?_ _ | refine blk_drew ?_ | refine blk_alloc ?_ _)); refine blk_put (cs := #[.int .i64 ((rd_T46 l0_1 x32_2).f0.f0), .int .i64 ((rd_T46 l0_1 x32_2).f0.f1), .int .i64 ((rd_T46 l0_1 x32_2).f0.f2), .int .i64 0, .int .i64 0, .int .i64 0, .int .i64 0, .int .i64 0, .int .i64 0, .int .i64 0, .int .i64 0]) ?_ 3 _ rfl; (with_reducible repeat (first | refine blk_drewN ?_ _ | refine blk_drew ?_ | refine blk_alloc ?_ _)); refine blk_put (cs := #[.int .i64 ((rd_T46 l0_1 x32_2).f0.f0), .int .i64 ((rd_T46 l0_1 x32_2).f0.f1), .int .i64 0, .int .i64 0, .int .i64 0, .int .i64 0, .int .i64 0, .int .i64 0, .int .i64 0, .int .i64 0, .int .i64 0]) ?_ 2 _ rfl; (with_reducible repeat (first | refine blk_drewN ?_ _ | refine blk_drew ?_ | refine blk_alloc ?_ _)); refine blk_put (cs := #[.int .i64 ((rd_T46 l0_1 x32_2).f0.f0), .int .i64 0, .int .i64 0, .int .i64 0, .int .i64 0, .int .i64 0, .int .i64 0, .int .i64 0, .int .i64 0, .int .i64 0, .int .i64 0]) ?_ 1 _ rfl; (with_reducible repeat (first | refine blk_drewN ?_ _ | refine blk_drew ?_ | refine blk_alloc ?_ _)); refine blk_put (cs := #[.int .i64 0, .int .i64 0, .int .i64 0, .int .i64 0, .int .i64 0, .int .i64 0, .int .i64 0, .int .i64 0, .int .i64 0, .int .i64 0, .int .i64 0]) ?_ 0 _ rfl; (with_reducible repeat (first | refine blk_drewN ?_ _ | refine blk_drew ?_ | refine blk_alloc ?_ _)); exact BK104.out) hb); have n3_ := am (below_step (bB HB.out) hb); clear BK101; clear BK102; clear BK104; clear HB; have BK101 := n0_; have BK102 := n1_; have BK104 := n2_; have HB := n3_; clear n0_ n1_ n2_ n3_; (try clear hb); (try clear hb2); (try clear hk); (try clear hi); have hcz53_0 : w52.cell? ⟨gb104, 0, none⟩ = some (.int .i64 ((rd_T46 l0_1 x32_2).f0.f0)) := (blk_cell BK104.out 0).trans rfl; have hcz53_1 : w52.cell? ⟨gb104, 1, none⟩ = some (.int .i64 ((rd_T46 l0_1 x32_2).f0.f1)) := (blk_cell BK104.out 1).trans rfl; have hcz53_2 : w52.cell? ⟨gb104, 2, none⟩ = some (.int .i64 ((rd_T46 l0_1 x32_2).f0.f2)) := (blk_cell BK104.out 2).trans rfl; have hcz53_3 : w52.cell? ⟨gb104, 3, none⟩ = some (.int .i64 ((rd_T46 l0_1 x32_2).f0.f3)) := (blk_cell BK104.out 3).trans rfl; have hcz53_4 : w52.cell? ⟨gb104, 4, none⟩ = some (.int .i64 ((rd_T46 l0_1 x32_2).f0.f4)) := (blk_cell BK104.out 4).trans rfl; have hcz53_5 : w52.cell? ⟨gb104, 5, none⟩ = some (.int .i64 ((rd_T46 l0_1 x32_2).f0.f5)) := (blk_cell BK104.out 5).trans rfl; have hcz53_6 : w52.cell? ⟨gb104, 6, none⟩ = some (.int .i64 ((rd_T46 l0_1 x32_2).f0.f6)) := (blk_cell BK104.out 6).trans rfl; have hcz53_7 : w52.cell? ⟨gb104, 7, none⟩ = some (.int .i64 ((rd_T46 l0_1 x32_2).f0.f7)) := (blk_cell BK104.out 7).trans rfl; have hcz53_8 : w52.cell? ⟨gb104, 8, none⟩ = some (.int .i64 ((rd_T46 l0_1 x32_2).f0.f8)) := (blk_cell BK104.out 8).trans rfl; have hcz53_9 : w52.cell? ⟨gb104, 9, none⟩ = some (.int .i64 ((rd_T46 l0_1 x32_2).f1)) := (blk_cell BK104.out 9).trans rfl; have hcz53_10 : w52.cell? ⟨gb104, 10, none⟩ = some (.int .i64 ((rd_T46 l0_1 x32_2).f2)) := (blk_cell BK104.out 10).trans rfl; have hfz53_0 := blk_frozen BK104.out 0; have hfz53_1 := blk_frozen BK104.out 1; have hfz53_2 := blk_frozen BK104.out 2; have hfz53_3 := blk_frozen BK104.out 3; have hfz53_4 := blk_frozen BK104.out 4; have hfz53_5 := blk_frozen BK104.out 5; have hfz53_6 := blk_frozen BK104.out 6; have hfz53_7 := blk_frozen BK104.out 7; have hfz53_8 := blk_frozen BK104.out 8; have hfz53_9 := blk_frozen BK104.out 9; have hfz53_10 := blk_frozen BK104.out 10; have hnb54 := NB102_101.out; have hnc54 := NB101_102.out; have hcz55_0 : w52.cell? ⟨gb102, 0, none⟩ = some (.int .i64 x103000_2) := (blk_cell BK102.out 0).trans rfl; have hfz55_0 := blk_frozen BK102.out 0))
              go_ret
              exact ⟨by first | rfl | (simp [errW_none, errW_some] <;> rfl) | (simp [*, errW_none, errW_some] <;> rfl), bB HB.out⟩
             ·rw [if_neg c47] at H
              have c47b0 : decide (x103000_2 ≤ ((rd_T46 l0_1 x32_2).f2)) = false := decide_eq_false c47
              clear c47
              have H' := am H
              clear H
              have p103 : 0 ≤ (x32_2 : Int) := of_decide_eq_true (by assumption)
              have q103 : x32_2 < (l0_1.length : Int) := of_decide_eq_true (by assumption)
              obtain ⟨ad103, e103, hx103_0, hx103_1, hx103_2, hx103_3, hx103_4, hx103_5, hx103_6, hx103_7, hx103_8, hx103_9, hx103_10⟩ := at_T46 HR0_1.out x32_2 p103 q103
              cases e103
              replace hx103_0 := (HB.out.cell (World.block_lt_of_cell? w _ hx103_0)).trans hx103_0
              replace hx103_1 := (HB.out.cell (World.block_lt_of_cell? w _ hx103_1)).trans hx103_1
              replace hx103_2 := (HB.out.cell (World.block_lt_of_cell? w _ hx103_2)).trans hx103_2
              replace hx103_3 := (HB.out.cell (World.block_lt_of_cell? w _ hx103_3)).trans hx103_3
              replace hx103_4 := (HB.out.cell (World.block_lt_of_cell? w _ hx103_4)).trans hx103_4
              replace hx103_5 := (HB.out.cell (World.block_lt_of_cell? w _ hx103_5)).trans hx103_5
              replace hx103_6 := (HB.out.cell (World.block_lt_of_cell? w _ hx103_6)).trans hx103_6
              replace hx103_7 := (HB.out.cell (World.block_lt_of_cell? w _ hx103_7)).trans hx103_7
              replace hx103_8 := (HB.out.cell (World.block_lt_of_cell? w _ hx103_8)).trans hx103_8
              replace hx103_9 := (HB.out.cell (World.block_lt_of_cell? w _ hx103_9)).trans hx103_9
              replace hx103_10 := (HB.out.cell (World.block_lt_of_cell? w _ hx103_10)).trans hx103_10
              replace p103 := eq_true p103
              replace q103 := eq_true q103
              go_wp2_with (first | ((with_reducible refine gate_dst (N := 5) rfl ?_); (try (refine gate_guard (by rfl) ?_; dsimp only)); refine box_event ?hg (N := 5) ?hd (cs := #[.int .i64 0, .int .i64 0, .int .i64 0, .int .i64 0, .int .i64 0, .int .i64 0, .int .i64 0, .int .i64 0, .int .i64 0, .int .i64 0, .int .i64 0]) (t := 46) ?hr ?_; (case hd => rfl); (case hg => rfl); (case hr => first | (go_simp; done) | (go_simp; rfl)); intro gb104 hg w56 hbox hb; have n0_ := am (blk_below (bA BK101.out) hb); have n1_ := am (blk_below (bA BK102.out) hb); have n2_ := am (below_step (bB HB.out) hb); have n3_ := am (hbox); have n4_ := am ((by rw [hg]; exact (below_size (bB HB.out)) : w.heap.size ≤ gb104)); have n5_ := am ((by rw [hg]; exact (below_size (bB HB.out)) : w.heap.size ≤ gb104)); have n6_ := am ((by rw [hg]; exact Nat.ne_of_lt (blk_lt (g := gb101) (o := .cells #[.int .i64 a0_0, .slice (some ad103) l0_1.length c0_1, .slice A0_2 l0_2.length c0_2] 35 (0, 0)) (bA BK101.out)) : gb101 ≠ gb104)); have n7_ := am ((by rw [hg]; exact Nat.ne_of_gt (blk_lt (g := gb101) (o := .cells #[.int .i64 a0_0, .slice (some ad103) l0_1.length c0_1, .slice A0_2 l0_2.length c0_2] 35 (0, 0)) (bA BK101.out)) : gb104 ≠ gb101)); have n8_ := am ((by rw [hg]; exact Nat.ne_of_lt (blk_lt (g := gb102) (o := .cells #[.int .i64 x103000_2] 3 (0, 0)) (bA BK102.out)) : gb102 ≠ gb104)); have n9_ := am ((by rw [hg]; exact Nat.ne_of_gt (blk_lt (g := gb102) (o := .cells #[.int .i64 x103000_2] 3 (0, 0)) (bA BK102.out)) : gb104 ≠ gb102)); clear BK101; clear BK102; clear HB; have BK101 := n0_; have BK102 := n1_; have HB := n2_; have BK104 := n3_; have GW104 := n4_; have GE104 := n5_; have NB101_104 := n6_; have NB104_101 := n7_; have NB102_104 := n8_; have NB104_102 := n9_; clear n0_ n1_ n2_ n3_ n4_ n5_ n6_ n7_ n8_ n9_; clear hb hbox hg; have hnb57 := NB104_101.out; have hnc57 := NB101_104.out; have hnb58 := NB104_102.out; have hnc58 := NB102_104.out; have hcz59_0 : w56.cell? ⟨gb104, 0, none⟩ = some (.int .i64 0) := (blk_cell BK104.out 0).trans rfl; have hcz59_1 : w56.cell? ⟨gb104, 1, none⟩ = some (.int .i64 0) := (blk_cell BK104.out 1).trans rfl; have hcz59_2 : w56.cell? ⟨gb104, 2, none⟩ = some (.int .i64 0) := (blk_cell BK104.out 2).trans rfl; have hcz59_3 : w56.cell? ⟨gb104, 3, none⟩ = some (.int .i64 0) := (blk_cell BK104.out 3).trans rfl; have hcz59_4 : w56.cell? ⟨gb104, 4, none⟩ = some (.int .i64 0) := (blk_cell BK104.out 4).trans rfl; have hcz59_5 : w56.cell? ⟨gb104, 5, none⟩ = some (.int .i64 0) := (blk_cell BK104.out 5).trans rfl; have hcz59_6 : w56.cell? ⟨gb104, 6, none⟩ = some (.int .i64 0) := (blk_cell BK104.out 6).trans rfl; have hcz59_7 : w56.cell? ⟨gb104, 7, none⟩ = some (.int .i64 0) := (blk_cell BK104.out 7).trans rfl; have hcz59_8 : w56.cell? ⟨gb104, 8, none⟩ = some (.int .i64 0) := (blk_cell BK104.out 8).trans rfl; have hcz59_9 : w56.cell? ⟨gb104, 9, none⟩ = some (.int .i64 0) := (blk_cell BK104.out 9).trans rfl; have hcz59_10 : w56.cell? ⟨gb104, 10, none⟩ = some (.int .i64 0) := (blk_cell BK104.out 10).trans rfl; have hfz59_0 := blk_frozen BK104.out 0; have hfz59_1 := blk_frozen BK104.out 1; have hfz59_2 := blk_frozen BK104.out 2; have hfz59_3 := blk_frozen BK104.out 3; have hfz59_4 := blk_frozen BK104.out 4; have hfz59_5 := blk_frozen BK104.out 5; have hfz59_6 := blk_frozen BK104.out 6; have hfz59_7 := blk_frozen BK104.out 7; have hfz59_8 := blk_frozen BK104.out 8; have hfz59_9 := blk_frozen BK104.out 9; have hfz59_10 := blk_frozen BK104.out 10) | ((with_reducible refine gate_callee (f := 58) rfl ?_); refine goesL_ (some 38) rfl rfl Try.func58 (by kernel_rfl) rfl #[.agg #[.int .i64 ((rd_T46 l0_1 x32_2).f0.f0), .int .i64 ((rd_T46 l0_1 x32_2).f0.f1), .int .i64 ((rd_T46 l0_1 x32_2).f0.f2), .int .i64 ((rd_T46 l0_1 x32_2).f0.f3), .int .i64 ((rd_T46 l0_1 x32_2).f0.f4), .int .i64 ((rd_T46 l0_1 x32_2).f0.f5), .int .i64 ((rd_T46 l0_1 x32_2).f0.f6), .int .i64 ((rd_T46 l0_1 x32_2).f0.f7), .int .i64 ((rd_T46 l0_1 x32_2).f0.f8)]] rfl bE ?_; (with_reducible refine (impl_IsTable.calls ((rd_T46 l0_1 x32_2).f0.f0) ((rd_T46 l0_1 x32_2).f0.f1) ((rd_T46 l0_1 x32_2).f0.f2) ((rd_T46 l0_1 x32_2).f0.f3) ((rd_T46 l0_1 x32_2).f0.f4) ((rd_T46 l0_1 x32_2).f0.f5) ((rd_T46 l0_1 x32_2).f0.f6) ((rd_T46 l0_1 x32_2).f0.f7) ((rd_T46 l0_1 x32_2).f0.f8) true _ A20.out).mono ?_); rintro e w60 ⟨rfl, hb⟩; refine ⟨_, rfl, ?_⟩; have n0_ := am (blk_below (g := gb101) (o := .cells #[.int .i64 a0_0, .slice (some ad103) l0_1.length c0_1, .slice A0_2 l0_2.length c0_2] 35 (0, 0)) (by (with_reducible repeat (first | refine blk_drewN ?_ _ | refine blk_drew ?_ | refine blk_alloc ?_ _)); refine blk_far ?_ NB101_104.out _; (with_reducible repeat (first | refine blk_drewN ?_ _ | refine blk_drew ?_ | refine blk_alloc ?_ _)); refine blk_far ?_ NB101_104.out _; (with_reducible repeat (first | refine blk_drewN ?_ _ | refine blk_drew ?_ | refine blk_alloc ?_ _)); refine blk_far ?_ NB101_104.out _; (with_reducible repeat (first | refine blk_drewN ?_ _ | refine blk_drew ?_ | refine blk_alloc ?_ _)); refine blk_far ?_ NB101_104.out _; (with_reducible repeat (first | refine blk_drewN ?_ _ | refine blk_drew ?_ | refine blk_alloc ?_ _)); refine blk_far ?_ NB101_104.out _; (with_reducible repeat (first | refine blk_drewN ?_ _ | refine blk_drew ?_ | refine blk_alloc ?_ _)); refine blk_far ?_ NB101_104.out _; (with_reducible repeat (first | refine blk_drewN ?_ _ | refine blk_drew ?_ | refine blk_alloc ?_ _)); refine blk_far ?_ NB101_104.out _; (with_reducible repeat (first | refine blk_drewN ?_ _ | refine blk_drew ?_ | refine blk_alloc ?_ _)); refine blk_far ?_ NB101_104.out _; (with_reducible repeat (first | refine blk_drewN ?_ _ | refine blk_drew ?_ | refine blk_alloc ?_ _)); refine blk_far ?_ NB101_104.out _; (with_reducible repeat (first | refine blk_drewN ?_ _ | refine blk_drew ?_ | refine blk_alloc ?_ _)); refine blk_far ?_ NB101_104.out _; (with_reducible repeat (first | refine blk_drewN ?_ _ | refine blk_drew ?_ | refine blk_alloc ?_ _)); refine blk_far ?_ NB101_104.out _; (with_reducible repeat (first | refine blk_drewN ?_ _ | refine blk_drew ?_ | refine blk_alloc ?_ _)); exact BK101.out) hb); have n1_ := am (blk_below (g := gb102) (o := .cells #[.int .i64 x103000_2] 3 (0, 0)) (by (with_reducible repeat (first | refine blk_drewN ?_ _ | refine blk_drew ?_ | refine blk_alloc ?_ _)); refine blk_far ?_ NB102_104.out _; (with_reducible repeat (first | refine blk_drewN ?_ _ | refine blk_drew ?_ | refine blk_alloc ?_ _)); refine blk_far ?_ NB102_104.out _; (with_reducible repeat (first | refine blk_drewN ?_ _ | refine blk_drew ?_ | refine blk_alloc ?_ _)); refine blk_far ?_ NB102_104.out _; (with_reducible repeat (first | refine blk_drewN ?_ _ | refine blk_drew ?_ | refine blk_alloc ?_ _)); refine blk_far ?_ NB102_104.out _; (with_reducible repeat (first | refine blk_drewN ?_ _ | refine blk_drew ?_ | refine blk_alloc ?_ _)); refine blk_far ?_ NB102_104.out _; (with_reducible repeat (first | refine blk_drewN ?_ _ | refine blk_drew ?_ | refine blk_alloc ?_ _)); refine blk_far ?_ NB102_104.out _; (with_reducible repeat (first | refine blk_drewN ?_ _ | refine blk_drew ?_ | refine blk_alloc ?_ _)); refine blk_far ?_ NB102_104.out _; (with_reducible repeat (first | refine blk_drewN ?_ _ | refine blk_drew ?_ | refine blk_alloc ?_ _)); refine blk_far ?_ NB102_104.out _; (with_reducible repeat (first | refine blk_drewN ?_ _ | refine blk_drew ?_ | refine blk_alloc ?_ _)); refine blk_far ?_ NB102_104.out _; (with_reducible repeat (first | refine blk_drewN ?_ _ | refine blk_drew ?_ | refine blk_alloc ?_ _)); refine blk_far ?_ NB102_104.out _; (with_reducible repeat (first | refine blk_drewN ?_ _ | refine blk_drew ?_ | refine blk_alloc ?_ _)); refine blk_far ?_ NB102_104.out _; (with_reducible repeat (first | refine blk_drewN ?_ _ | refine blk_drew ?_ | refine blk_alloc ?_ _)); exact BK102.out) hb); have n2_ := am (blk_below (g := gb104) (o := .cells #[.int .i64 ((rd_T46 l0_1 x32_2).f0.f0), .int .i64 ((rd_T46 l0_1 x32_2).f0.f1), .int .i64 ((rd_T46 l0_1 x32_2).f0.f2), .int .i64 ((rd_T46 l0_1 x32_2).f0.f3), .int .i64 ((rd_T46 l0_1 x32_2).f0.f4), .int .i64 ((rd_T46 l0_1 x32_2).f0.f5), .int .i64 ((rd_T46 l0_1 x32_2).f0.f6), .int .i64 ((rd_T46 l0_1 x32_2).f0.f7), .int .i64 ((rd_T46 l0_1 x32_2).f0.f8), .int .i64 ((rd_T46 l0_1 x32_2).f1), .int .i64 ((rd_T46 l0_1 x32_2).f2)] 46 (0, 0)) (by (with_reducible repeat (first | refine blk_drewN ?_ _ | refine blk_drew ?_ | refine blk_alloc ?_ _)); refine blk_put (cs := #[.int .i64 ((rd_T46 l0_1 x32_2).f0.f0), .int .i64 ((rd_T46 l0_1 x32_2).f0.f1), .int .i64 ((rd_T46 l0_1 x32_2).f0.f2), .int .i64 ((rd_T46 l0_1 x32_2).f0.f3), .int .i64 ((rd_T46 l0_1 x32_2).f0.f4), .int .i64 ((rd_T46 l0_1 x32_2).f0.f5), .int .i64 ((rd_T46 l0_1 x32_2).f0.f6), .int .i64 ((rd_T46 l0_1 x32_2).f0.f7), .int .i64 ((rd_T46 l0_1 x32_2).f0.f8), .int .i64 ((rd_T46 l0_1 x32_2).f1), .int .i64 0]) ?_ 10 _ rfl; (with_reducible repeat (first | refine blk_drewN ?_ _ | refine blk_drew ?_ | refine blk_alloc ?_ _)); refine blk_put (cs := #[.int .i64 ((rd_T46 l0_1 x32_2).f0.f0), .int .i64 ((rd_T46 l0_1 x32_2).f0.f1), .int .i64 ((rd_T46 l0_1 x32_2).f0.f2), .int .i64 ((rd_T46 l0_1 x32_2).f0.f3), .int .i64 ((rd_T46 l0_1 x32_2).f0.f4), .int .i64 ((rd_T46 l0_1 x32_2).f0.f5), .int .i64 ((rd_T46 l0_1 x32_2).f0.f6), .int .i64 ((rd_T46 l0_1 x32_2).f0.f7), .int .i64 ((rd_T46 l0_1 x32_2).f0.f8), .int .i64 0, .int .i64 0]) ?_ 9 _ rfl; (with_reducible repeat (first | refine blk_drewN ?_ _ | refine blk_drew ?_ | refine blk_alloc ?_ _)); refine blk_put (cs := #[.int .i64 ((rd_T46 l0_1 x32_2).f0.f0), .int .i64 ((rd_T46 l0_1 x32_2).f0.f1), .int .i64 ((rd_T46 l0_1 x32_2).f0.f2), .int .i64 ((rd_T46 l0_1 x32_2).f0.f3), .int .i64 ((rd_T46 l0_1 x32_2).f0.f4), .int .i64 ((rd_T46 l0_1 x32_2).f0.f5), .int .i64 ((rd_T46 l0_1 x32_2).f0.f6), .int .i64 ((rd_T46 l0_1 x32_2).f0.f7), .int .i64 0, .int .i64 0, .int .i64 0]) ?_ 8 _ rfl; (with_reducible repeat (first | refine blk_drewN ?_ _ | refine blk_drew ?_ | refine blk_alloc ?_ _)); refine blk_put (cs := #[.int .i64 ((rd_T46 l0_1 x32_2).f0.f0), .int .i64 ((rd_T46 l0_1 x32_2).f0.f1), .int .i64 ((rd_T46 l0_1 x32_2).f0.f2), .int .i64 ((rd_T46 l0_1 x32_2).f0.f3), .int .i64 ((rd_T46 l0_1 x32_2).f0.f4), .int .i64 ((rd_T46 l0_1 x32_2).f0.f5), .int .i64 ((rd_T46 l0_1 x32_2).f0.f6), .int .i64 0, .int .i64 0, .int .i64 0, .int .i64 0]) ?_ 7 _ rfl; (with_reducible repeat (first | refine blk_drewN ?_ _ | refine blk_drew ?_ | refine blk_alloc ?_ _)); refine blk_put (cs := #[.int .i64 ((rd_T46 l0_1 x32_2).f0.f0), .int .i64 ((rd_T46 l0_1 x32_2).f0.f1), .int .i64 ((rd_T46 l0_1 x32_2).f0.f2), .int .i64 ((rd_T46 l0_1 x32_2).f0.f3), .int .i64 ((rd_T46 l0_1 x32_2).f0.f4), .int .i64 ((rd_T46 l0_1 x32_2).f0.f5), .int .i64 0, .int .i64 0, .int .i64 0, .int .i64 0, .int .i64 0]) ?_ 6 _ rfl; (with_reducible repeat (first | refine blk_drewN ?_ _ | refine blk_drew ?_ | refine blk_alloc ?_ _)); refine blk_put (cs := #[.int .i64 ((rd_T46 l0_1 x32_2).f0.f0), .int .i64 ((rd_T46 l0_1 x32_2).f0.f1), .int .i64 ((rd_T46 l0_1 x32_2).f0.f2), .int .i64 ((rd_T46 l0_1 x32_2).f0.f3), .int .i64 ((rd_T46 l0_1 x32_2).f0.f4), .int .i64 0, .int .i64 0, .int .i64 0, .int .i64 0, .int .i64 0, .int .i64 0]) ?_ 5 _ rfl; (with_reducible repeat (first | refine blk_drewN ?_ _ | refine blk_drew ?_ | refine blk_alloc ?_ _)); refine blk_put (cs := #[.int .i64 ((rd_T46 l0_1 x32_2).f0.f0), .int .i64 ((rd_T46 l0_1 x32_2).f0.f1), .int .i64 ((rd_T46 l0_1 x32_2).f0.f2), .int .i64 ((rd_T46 l0_1 x32_2).f0.f3), .int .i64 0, .int .i64 0, .int .i64 0, .int .i64 0, .int .i64 0, .int .i64 0, .int .i64 0]) ?_ 4 _ rfl; (with_reducible repeat (first | refine blk_drewN ?_ _ | refine blk_drew ?_ | refine blk_alloc ?_ _)); refine blk_put (cs := #[.int .i64 ((rd_T46 l0_1 x32_2).f0.f0), .int .i64 ((rd_T46 l0_1 x32_2).f0.f1), .int .i64 ((rd_T46 l0_1 x32_2).f0.f2), .int .i64 0, .int .i64 0, .int .i64 0, .int .i64 0, .int .i64 0, .int .i64 0, .int .i64 0, .int .i64 0]) ?_ 3 _ rfl; (with_reducible repeat (first | refine blk_drewN ?_ _ | refine blk_drew ?_ | refine blk_alloc ?_ _)); refine blk_put (cs := #[.int .i64 ((rd_T46 l0_1 x32_2).f0.f0), .int .i64 ((rd_T46 l0_1 x32_2).f0.f1), .int .i64 0, .int .i64 0, .int .i64 0, .int .i64 0, .int .i64 0, .int .i64 0, .int .i64 0, .int .i64 0, .int .i64 0]) ?_ 2 _ rfl; (with_reducible repeat (first | refine blk_drewN ?_ _ | refine blk_drew ?_ | refine blk_alloc ?_ _)); refine blk_put (cs := #[.int .i64 ((rd_T46 l0_1 x32_2).f0.f0), .int .i64 0, .int .i64 0, .int .i64 0, .int .i64 0, .int .i64 0, .int .i64 0, .int .i64 0, .int .i64 0, .int .i64 0, .int .i64 0]) ?_ 1 _ rfl; (with_reducible repeat (first | refine blk_drewN ?_ _ | refine blk_drew ?_ | refine blk_alloc ?_ _)); refine blk_put (cs := #[.int .i64 0, .int .i64 0, .int .i64 0, .int .i64 0, .int .i64 0, .int .i64 0, .int .i64 0, .int .i64 0, .int .i64 0, .int .i64 0, .int .i64 0]) ?_ 0 _ rfl; (with_reducible repeat (first | refine blk_drewN ?_ _ | refine blk_drew ?_ | refine blk_alloc ?_ _)); exact BK104.out) hb); have n3_ := am (below_step (bB HB.out) hb); clear BK101; clear BK102; clear BK104; clear HB; have BK101 := n0_; have BK102 := n1_; have BK104 := n2_; have HB := n3_; clear n0_ n1_ n2_ n3_; (try clear hb); (try clear hb2); (try clear hk); (try clear hi); have hcz61_0 : w60.cell? ⟨gb104, 0, none⟩ = some (.int .i64 ((rd_T46 l0_1 x32_2).f0.f0)) := (blk_cell BK104.out 0).trans rfl; have hcz61_1 : w60.cell? ⟨gb104, 1, none⟩ = some (.int .i64 ((rd_T46 l0_1 x32_2).f0.f1)) := (blk_cell BK104.out 1).trans rfl; have hcz61_2 : w60.cell? ⟨gb104, 2, none⟩ = some (.int .i64 ((rd_T46 l0_1 x32_2).f0.f2)) := (blk_cell BK104.out 2).trans rfl; have hcz61_3 : w60.cell? ⟨gb104, 3, none⟩ = some (.int .i64 ((rd_T46 l0_1 x32_2).f0.f3)) := (blk_cell BK104.out 3).trans rfl; have hcz61_4 : w60.cell? ⟨gb104, 4, none⟩ = some (.int .i64 ((rd_T46 l0_1 x32_2).f0.f4)) := (blk_cell BK104.out 4).trans rfl; have hcz61_5 : w60.cell? ⟨gb104, 5, none⟩ = some (.int .i64 ((rd_T46 l0_1 x32_2).f0.f5)) := (blk_cell BK104.out 5).trans rfl; have hcz61_6 : w60.cell? ⟨gb104, 6, none⟩ = some (.int .i64 ((rd_T46 l0_1 x32_2).f0.f6)) := (blk_cell BK104.out 6).trans rfl; have hcz61_7 : w60.cell? ⟨gb104, 7, none⟩ = some (.int .i64 ((rd_T46 l0_1 x32_2).f0.f7)) := (blk_cell BK104.out 7).trans rfl; have hcz61_8 : w60.cell? ⟨gb104, 8, none⟩ = some (.int .i64 ((rd_T46 l0_1 x32_2).f0.f8)) := (blk_cell BK104.out 8).trans rfl; have hcz61_9 : w60.cell? ⟨gb104, 9, none⟩ = some (.int .i64 ((rd_T46 l0_1 x32_2).f1)) := (blk_cell BK104.out 9).trans rfl; have hcz61_10 : w60.cell? ⟨gb104, 10, none⟩ = some (.int .i64 ((rd_T46 l0_1 x32_2).f2)) := (blk_cell BK104.out 10).trans rfl; have hfz61_0 := blk_frozen BK104.out 0; have hfz61_1 := blk_frozen BK104.out 1; have hfz61_2 := blk_frozen BK104.out 2; have hfz61_3 := blk_frozen BK104.out 3; have hfz61_4 := blk_frozen BK104.out 4; have hfz61_5 := blk_frozen BK104.out 5; have hfz61_6 := blk_frozen BK104.out 6; have hfz61_7 := blk_frozen BK104.out 7; have hfz61_8 := blk_frozen BK104.out 8; have hfz61_9 := blk_frozen BK104.out 9; have hfz61_10 := blk_frozen BK104.out 10; have hnb62 := NB102_101.out; have hnc62 := NB101_102.out; have hcz63_0 : w60.cell? ⟨gb102, 0, none⟩ = some (.int .i64 x103000_2) := (blk_cell BK102.out 0).trans rfl; have hfz63_0 := blk_frozen BK102.out 0))
              go_roundg k2
              case measure => have := HJ1.out; have := HK2.out; omega
              case rel => exact ⟨(wrap64 (x32_2 + 1)), (wrap64 (x103000_2 + 1)), (by first | rfl | (simp; done) | (simp [*]; done)), H', ⟨by have := HJ1.out; have := HK2.out; omega⟩, ⟨by (with_reducible repeat (first | refine blk_drewN ?_ _ | refine blk_drew ?_ | refine blk_alloc ?_ _)); refine blk_far ?_ NB101_102.out _; (with_reducible repeat (first | refine blk_drewN ?_ _ | refine blk_drew ?_ | refine blk_alloc ?_ _)); exact BK101.out⟩, ⟨by (with_reducible repeat (first | refine blk_drewN ?_ _ | refine blk_drew ?_ | refine blk_alloc ?_ _)); refine blk_put (cs := #[.int .i64 x103000_2]) ?_ 0 _ rfl; (with_reducible repeat (first | refine blk_drewN ?_ _ | refine blk_drew ?_ | refine blk_alloc ?_ _)); exact BK102.out⟩, ⟨bB HB.out⟩⟩
         ·replace c21 := Bool.eq_false_iff.mpr c21
          subst c21
          have H1 : (some false) = some r := by rw [if_neg (show ¬ (false = true) by decide)] at H; exact H
          clear H; have H := H1; clear H1
          obtain rfl := Option.some.inj H
          have p103 : 0 ≤ (x32_2 : Int) := of_decide_eq_true (by assumption)
          have q103 : x32_2 < (l0_1.length : Int) := of_decide_eq_true (by assumption)
          obtain ⟨ad103, e103, hx103_0, hx103_1, hx103_2, hx103_3, hx103_4, hx103_5, hx103_6, hx103_7, hx103_8, hx103_9, hx103_10⟩ := at_T46 HR0_1.out x32_2 p103 q103
          cases e103
          replace hx103_0 := (HB.out.cell (World.block_lt_of_cell? w _ hx103_0)).trans hx103_0
          replace hx103_1 := (HB.out.cell (World.block_lt_of_cell? w _ hx103_1)).trans hx103_1
          replace hx103_2 := (HB.out.cell (World.block_lt_of_cell? w _ hx103_2)).trans hx103_2
          replace hx103_3 := (HB.out.cell (World.block_lt_of_cell? w _ hx103_3)).trans hx103_3
          replace hx103_4 := (HB.out.cell (World.block_lt_of_cell? w _ hx103_4)).trans hx103_4
          replace hx103_5 := (HB.out.cell (World.block_lt_of_cell? w _ hx103_5)).trans hx103_5
          replace hx103_6 := (HB.out.cell (World.block_lt_of_cell? w _ hx103_6)).trans hx103_6
          replace hx103_7 := (HB.out.cell (World.block_lt_of_cell? w _ hx103_7)).trans hx103_7
          replace hx103_8 := (HB.out.cell (World.block_lt_of_cell? w _ hx103_8)).trans hx103_8
          replace hx103_9 := (HB.out.cell (World.block_lt_of_cell? w _ hx103_9)).trans hx103_9
          replace hx103_10 := (HB.out.cell (World.block_lt_of_cell? w _ hx103_10)).trans hx103_10
          replace p103 := eq_true p103
          replace q103 := eq_true q103
          go_wp2_with (first | ((with_reducible refine gate_dst (N := 5) rfl ?_); (try (refine gate_guard (by rfl) ?_; dsimp only)); refine box_event ?hg (N := 5) ?hd (cs := #[.int .i64 0, .int .i64 0, .int .i64 0, .int .i64 0, .int .i64 0, .int .i64 0, .int .i64 0, .int .i64 0, .int .i64 0, .int .i64 0, .int .i64 0]) (t := 46) ?hr ?_; (case hd => rfl); (case hg => rfl); (case hr => first | (go_simp; done) | (go_simp; rfl)); intro gb104 hg w64 hbox hb; have n0_ := am (blk_below (bA BK101.out) hb); have n1_ := am (blk_below (bA BK102.out) hb); have n2_ := am (below_step (bB HB.out) hb); have n3_ := am (hbox); have n4_ := am ((by rw [hg]; exact (below_size (bB HB.out)) : w.heap.size ≤ gb104)); have n5_ := am ((by rw [hg]; exact (below_size (bB HB.out)) : w.heap.size ≤ gb104)); have n6_ := am ((by rw [hg]; exact Nat.ne_of_lt (blk_lt (g := gb101) (o := .cells #[.int .i64 a0_0, .slice (some ad103) l0_1.length c0_1, .slice A0_2 l0_2.length c0_2] 35 (0, 0)) (bA BK101.out)) : gb101 ≠ gb104)); have n7_ := am ((by rw [hg]; exact Nat.ne_of_gt (blk_lt (g := gb101) (o := .cells #[.int .i64 a0_0, .slice (some ad103) l0_1.length c0_1, .slice A0_2 l0_2.length c0_2] 35 (0, 0)) (bA BK101.out)) : gb104 ≠ gb101)); have n8_ := am ((by rw [hg]; exact Nat.ne_of_lt (blk_lt (g := gb102) (o := .cells #[.int .i64 x103000_2] 3 (0, 0)) (bA BK102.out)) : gb102 ≠ gb104)); have n9_ := am ((by rw [hg]; exact Nat.ne_of_gt (blk_lt (g := gb102) (o := .cells #[.int .i64 x103000_2] 3 (0, 0)) (bA BK102.out)) : gb104 ≠ gb102)); clear BK101; clear BK102; clear HB; have BK101 := n0_; have BK102 := n1_; have HB := n2_; have BK104 := n3_; have GW104 := n4_; have GE104 := n5_; have NB101_104 := n6_; have NB104_101 := n7_; have NB102_104 := n8_; have NB104_102 := n9_; clear n0_ n1_ n2_ n3_ n4_ n5_ n6_ n7_ n8_ n9_; clear hb hbox hg; have hnb65 := NB104_101.out; have hnc65 := NB101_104.out; have hnb66 := NB104_102.out; have hnc66 := NB102_104.out; have hcz67_0 : w64.cell? ⟨gb104, 0, none⟩ = some (.int .i64 0) := (blk_cell BK104.out 0).trans rfl; have hcz67_1 : w64.cell? ⟨gb104, 1, none⟩ = some (.int .i64 0) := (blk_cell BK104.out 1).trans rfl; have hcz67_2 : w64.cell? ⟨gb104, 2, none⟩ = some (.int .i64 0) := (blk_cell BK104.out 2).trans rfl; have hcz67_3 : w64.cell? ⟨gb104, 3, none⟩ = some (.int .i64 0) := (blk_cell BK104.out 3).trans rfl; have hcz67_4 : w64.cell? ⟨gb104, 4, none⟩ = some (.int .i64 0) := (blk_cell BK104.out 4).trans rfl; have hcz67_5 : w64.cell? ⟨gb104, 5, none⟩ = some (.int .i64 0) := (blk_cell BK104.out 5).trans rfl; have hcz67_6 : w64.cell? ⟨gb104, 6, none⟩ = some (.int .i64 0) := (blk_cell BK104.out 6).trans rfl; have hcz67_7 : w64.cell? ⟨gb104, 7, none⟩ = some (.int .i64 0) := (blk_cell BK104.out 7).trans rfl; have hcz67_8 : w64.cell? ⟨gb104, 8, none⟩ = some (.int .i64 0) := (blk_cell BK104.out 8).trans rfl; have hcz67_9 : w64.cell? ⟨gb104, 9, none⟩ = some (.int .i64 0) := (blk_cell BK104.out 9).trans rfl; have hcz67_10 : w64.cell? ⟨gb104, 10, none⟩ = some (.int .i64 0) := (blk_cell BK104.out 10).trans rfl; have hfz67_0 := blk_frozen BK104.out 0; have hfz67_1 := blk_frozen BK104.out 1; have hfz67_2 := blk_frozen BK104.out 2; have hfz67_3 := blk_frozen BK104.out 3; have hfz67_4 := blk_frozen BK104.out 4; have hfz67_5 := blk_frozen BK104.out 5; have hfz67_6 := blk_frozen BK104.out 6; have hfz67_7 := blk_frozen BK104.out 7; have hfz67_8 := blk_frozen BK104.out 8; have hfz67_9 := blk_frozen BK104.out 9; have hfz67_10 := blk_frozen BK104.out 10) | ((with_reducible refine gate_callee (f := 58) rfl ?_); refine goesL_ (some 38) rfl rfl Try.func58 (by kernel_rfl) rfl #[.agg #[.int .i64 ((rd_T46 l0_1 x32_2).f0.f0), .int .i64 ((rd_T46 l0_1 x32_2).f0.f1), .int .i64 ((rd_T46 l0_1 x32_2).f0.f2), .int .i64 ((rd_T46 l0_1 x32_2).f0.f3), .int .i64 ((rd_T46 l0_1 x32_2).f0.f4), .int .i64 ((rd_T46 l0_1 x32_2).f0.f5), .int .i64 ((rd_T46 l0_1 x32_2).f0.f6), .int .i64 ((rd_T46 l0_1 x32_2).f0.f7), .int .i64 ((rd_T46 l0_1 x32_2).f0.f8)]] rfl bE ?_; (with_reducible refine (impl_IsTable.calls ((rd_T46 l0_1 x32_2).f0.f0) ((rd_T46 l0_1 x32_2).f0.f1) ((rd_T46 l0_1 x32_2).f0.f2) ((rd_T46 l0_1 x32_2).f0.f3) ((rd_T46 l0_1 x32_2).f0.f4) ((rd_T46 l0_1 x32_2).f0.f5) ((rd_T46 l0_1 x32_2).f0.f6) ((rd_T46 l0_1 x32_2).f0.f7) ((rd_T46 l0_1 x32_2).f0.f8) false _ A20.out).mono ?_); rintro e w68 ⟨rfl, hb⟩; refine ⟨_, rfl, ?_⟩; have n0_ := am (blk_below (g := gb101) (o := .cells #[.int .i64 a0_0, .slice (some ad103) l0_1.length c0_1, .slice A0_2 l0_2.length c0_2] 35 (0, 0)) (by (with_reducible repeat (first | refine blk_drewN ?_ _ | refine blk_drew ?_ | refine blk_alloc ?_ _)); refine blk_far ?_ NB101_104.out _; (with_reducible repeat (first | refine blk_drewN ?_ _ | refine blk_drew ?_ | refine blk_alloc ?_ _)); refine blk_far ?_ NB101_104.out _; (with_reducible repeat (first | refine blk_drewN ?_ _ | refine blk_drew ?_ | refine blk_alloc ?_ _)); refine blk_far ?_ NB101_104.out _; (with_reducible repeat (first | refine blk_drewN ?_ _ | refine blk_drew ?_ | refine blk_alloc ?_ _)); refine blk_far ?_ NB101_104.out _; (with_reducible repeat (first | refine blk_drewN ?_ _ | refine blk_drew ?_ | refine blk_alloc ?_ _)); refine blk_far ?_ NB101_104.out _; (with_reducible repeat (first | refine blk_drewN ?_ _ | refine blk_drew ?_ | refine blk_alloc ?_ _)); refine blk_far ?_ NB101_104.out _; (with_reducible repeat (first | refine blk_drewN ?_ _ | refine blk_drew ?_ | refine blk_alloc ?_ _)); refine blk_far ?_ NB101_104.out _; (with_reducible repeat (first | refine blk_drewN ?_ _ | refine blk_drew ?_ | refine blk_alloc ?_ _)); refine blk_far ?_ NB101_104.out _; (with_reducible repeat (first | refine blk_drewN ?_ _ | refine blk_drew ?_ | refine blk_alloc ?_ _)); refine blk_far ?_ NB101_104.out _; (with_reducible repeat (first | refine blk_drewN ?_ _ | refine blk_drew ?_ | refine blk_alloc ?_ _)); refine blk_far ?_ NB101_104.out _; (with_reducible repeat (first | refine blk_drewN ?_ _ | refine blk_drew ?_ | refine blk_alloc ?_ _)); refine blk_far ?_ NB101_104.out _; (with_reducible repeat (first | refine blk_drewN ?_ _ | refine blk_drew ?_ | refine blk_alloc ?_ _)); exact BK101.out) hb); have n1_ := am (blk_below (g := gb102) (o := .cells #[.int .i64 x103000_2] 3 (0, 0)) (by (with_reducible repeat (first | refine blk_drewN ?_ _ | refine blk_drew ?_ | refine blk_alloc ?_ _)); refine blk_far ?_ NB102_104.out _; (with_reducible repeat (first | refine blk_drewN ?_ _ | refine blk_drew ?_ | refine blk_alloc ?_ _)); refine blk_far ?_ NB102_104.out _; (with_reducible repeat (first | refine blk_drewN ?_ _ | refine blk_drew ?_ | refine blk_alloc ?_ _)); refine blk_far ?_ NB102_104.out _; (with_reducible repeat (first | refine blk_drewN ?_ _ | refine blk_drew ?_ | refine blk_alloc ?_ _)); refine blk_far ?_ NB102_104.out _; (with_reducible repeat (first | refine blk_drewN ?_ _ | refine blk_drew ?_ | refine blk_alloc ?_ _)); refine blk_far ?_ NB102_104.out _; (with_reducible repeat (first | refine blk_drewN ?_ _ | refine blk_drew ?_ | refine blk_alloc ?_ _)); refine blk_far ?_ NB102_104.out _; (with_reducible repeat (first | refine blk_drewN ?_ _ | refine blk_drew ?_ | refine blk_alloc ?_ _)); refine blk_far ?_ NB102_104.out _; (with_reducible repeat (first | refine blk_drewN ?_ _ | refine blk_drew ?_ | refine blk_alloc ?_ _)); refine blk_far ?_ NB102_104.out _; (with_reducible repeat (first | refine blk_drewN ?_ _ | refine blk_drew ?_ | refine blk_alloc ?_ _)); refine blk_far ?_ NB102_104.out _; (with_reducible repeat (first | refine blk_drewN ?_ _ | refine blk_drew ?_ | refine blk_alloc ?_ _)); refine blk_far ?_ NB102_104.out _; (with_reducible repeat (first | refine blk_drewN ?_ _ | refine blk_drew ?_ | refine blk_alloc ?_ _)); refine blk_far ?_ NB102_104.out _; (with_reducible repeat (first | refine blk_drewN ?_ _ | refine blk_drew ?_ | refine blk_alloc ?_ _)); exact BK102.out) hb); have n2_ := am (blk_below (g := gb104) (o := .cells #[.int .i64 ((rd_T46 l0_1 x32_2).f0.f0), .int .i64 ((rd_T46 l0_1 x32_2).f0.f1), .int .i64 ((rd_T46 l0_1 x32_2).f0.f2), .int .i64 ((rd_T46 l0_1 x32_2).f0.f3), .int .i64 ((rd_T46 l0_1 x32_2).f0.f4), .int .i64 ((rd_T46 l0_1 x32_2).f0.f5), .int .i64 ((rd_T46 l0_1 x32_2).f0.f6), .int .i64 ((rd_T46 l0_1 x32_2).f0.f7), .int .i64 ((rd_T46 l0_1 x32_2).f0.f8), .int .i64 ((rd_T46 l0_1 x32_2).f1), .int .i64 ((rd_T46 l0_1 x32_2).f2)] 46 (0, 0)) (by (with_reducible repeat (first | refine blk_drewN ?_ _ | refine blk_drew ?_ | refine blk_alloc ?_ _)); refine blk_put (cs := #[.int .i64 ((rd_T46 l0_1 x32_2).f0.f0), .int .i64 ((rd_T46 l0_1 x32_2).f0.f1), .int .i64 ((rd_T46 l0_1 x32_2).f0.f2), .int .i64 ((rd_T46 l0_1 x32_2).f0.f3), .int .i64 ((rd_T46 l0_1 x32_2).f0.f4), .int .i64 ((rd_T46 l0_1 x32_2).f0.f5), .int .i64 ((rd_T46 l0_1 x32_2).f0.f6), .int .i64 ((rd_T46 l0_1 x32_2).f0.f7), .int .i64 ((rd_T46 l0_1 x32_2).f0.f8), .int .i64 ((rd_T46 l0_1 x32_2).f1), .int .i64 0]) ?_ 10 _ rfl; (with_reducible repeat (first | refine blk_drewN ?_ _ | refine blk_drew ?_ | refine blk_alloc ?_ _)); refine blk_put (cs := #[.int .i64 ((rd_T46 l0_1 x32_2).f0.f0), .int .i64 ((rd_T46 l0_1 x32_2).f0.f1), .int .i64 ((rd_T46 l0_1 x32_2).f0.f2), .int .i64 ((rd_T46 l0_1 x32_2).f0.f3), .int .i64 ((rd_T46 l0_1 x32_2).f0.f4), .int .i64 ((rd_T46 l0_1 x32_2).f0.f5), .int .i64 ((rd_T46 l0_1 x32_2).f0.f6), .int .i64 ((rd_T46 l0_1 x32_2).f0.f7), .int .i64 ((rd_T46 l0_1 x32_2).f0.f8), .int .i64 0, .int .i64 0]) ?_ 9 _ rfl; (with_reducible repeat (first | refine blk_drewN ?_ _ | refine blk_drew ?_ | refine blk_alloc ?_ _)); refine blk_put (cs := #[.int .i64 ((rd_T46 l0_1 x32_2).f0.f0), .int .i64 ((rd_T46 l0_1 x32_2).f0.f1), .int .i64 ((rd_T46 l0_1 x32_2).f0.f2), .int .i64 ((rd_T46 l0_1 x32_2).f0.f3), .int .i64 ((rd_T46 l0_1 x32_2).f0.f4), .int .i64 ((rd_T46 l0_1 x32_2).f0.f5), .int .i64 ((rd_T46 l0_1 x32_2).f0.f6), .int .i64 ((rd_T46 l0_1 x32_2).f0.f7), .int .i64 0, .int .i64 0, .int .i64 0]) ?_ 8 _ rfl; (with_reducible repeat (first | refine blk_drewN ?_ _ | refine blk_drew ?_ | refine blk_alloc ?_ _)); refine blk_put (cs := #[.int .i64 ((rd_T46 l0_1 x32_2).f0.f0), .int .i64 ((rd_T46 l0_1 x32_2).f0.f1), .int .i64 ((rd_T46 l0_1 x32_2).f0.f2), .int .i64 ((rd_T46 l0_1 x32_2).f0.f3), .int .i64 ((rd_T46 l0_1 x32_2).f0.f4), .int .i64 ((rd_T46 l0_1 x32_2).f0.f5), .int .i64 ((rd_T46 l0_1 x32_2).f0.f6), .int .i64 0, .int .i64 0, .int .i64 0, .int .i64 0]) ?_ 7 _ rfl; (with_reducible repeat (first | refine blk_drewN ?_ _ | refine blk_drew ?_ | refine blk_alloc ?_ _)); refine blk_put (cs := #[.int .i64 ((rd_T46 l0_1 x32_2).f0.f0), .int .i64 ((rd_T46 l0_1 x32_2).f0.f1), .int .i64 ((rd_T46 l0_1 x32_2).f0.f2), .int .i64 ((rd_T46 l0_1 x32_2).f0.f3), .int .i64 ((rd_T46 l0_1 x32_2).f0.f4), .int .i64 ((rd_T46 l0_1 x32_2).f0.f5), .int .i64 0, .int .i64 0, .int .i64 0, .int .i64 0, .int .i64 0]) ?_ 6 _ rfl; (with_reducible repeat (first | refine blk_drewN ?_ _ | refine blk_drew ?_ | refine blk_alloc ?_ _)); refine blk_put (cs := #[.int .i64 ((rd_T46 l0_1 x32_2).f0.f0), .int .i64 ((rd_T46 l0_1 x32_2).f0.f1), .int .i64 ((rd_T46 l0_1 x32_2).f0.f2), .int .i64 ((rd_T46 l0_1 x32_2).f0.f3), .int .i64 ((rd_T46 l0_1 x32_2).f0.f4), .int .i64 0, .int .i64 0, .int .i64 0, .int .i64 0, .int .i64 0, .int .i64 0]) ?_ 5 _ rfl; (with_reducible repeat (first | refine blk_drewN ?_ _ | refine blk_drew ?_ | refine blk_alloc ?_ _)); refine blk_put (cs := #[.int .i64 ((rd_T46 l0_1 x32_2).f0.f0), .int .i64 ((rd_T46 l0_1 x32_2).f0.f1), .int .i64 ((rd_T46 l0_1 x32_2).f0.f2), .int .i64 ((rd_T46 l0_1 x32_2).f0.f3), .int .i64 0, .int .i64 0, .int .i64 0, .int .i64 0, .int .i64 0, .int .i64 0, .int .i64 0]) ?_ 4 _ rfl; (with_reducible repeat (first | refine blk_drewN ?_ _ | refine blk_drew ?_ | refine blk_alloc ?_ _)); refine blk_put (cs := #[.int .i64 ((rd_T46 l0_1 x32_2).f0.f0), .int .i64 ((rd_T46 l0_1 x32_2).f0.f1), .int .i64 ((rd_T46 l0_1 x32_2).f0.f2), .int .i64 0, .int .i64 0, .int .i64 0, .int .i64 0, .int .i64 0, .int .i64 0, .int .i64 0, .int .i64 0]) ?_ 3 _ rfl; (with_reducible repeat (first | refine blk_drewN ?_ _ | refine blk_drew ?_ | refine blk_alloc ?_ _)); refine blk_put (cs := #[.int .i64 ((rd_T46 l0_1 x32_2).f0.f0), .int .i64 ((rd_T46 l0_1 x32_2).f0.f1), .int .i64 0, .int .i64 0, .int .i64 0, .int .i64 0, .int .i64 0, .int .i64 0, .int .i64 0, .int .i64 0, .int .i64 0]) ?_ 2 _ rfl; (with_reducible repeat (first | refine blk_drewN ?_ _ | refine blk_drew ?_ | refine blk_alloc ?_ _)); refine blk_put (cs := #[.int .i64 ((rd_T46 l0_1 x32_2).f0.f0), .int .i64 0, .int .i64 0, .int .i64 0, .int .i64 0, .int .i64 0, .int .i64 0, .int .i64 0, .int .i64 0, .int .i64 0, .int .i64 0]) ?_ 1 _ rfl; (with_reducible repeat (first | refine blk_drewN ?_ _ | refine blk_drew ?_ | refine blk_alloc ?_ _)); refine blk_put (cs := #[.int .i64 0, .int .i64 0, .int .i64 0, .int .i64 0, .int .i64 0, .int .i64 0, .int .i64 0, .int .i64 0, .int .i64 0, .int .i64 0, .int .i64 0]) ?_ 0 _ rfl; (with_reducible repeat (first | refine blk_drewN ?_ _ | refine blk_drew ?_ | refine blk_alloc ?_ _)); exact BK104.out) hb); have n3_ := am (below_step (bB HB.out) hb); clear BK101; clear BK102; clear BK104; clear HB; have BK101 := n0_; have BK102 := n1_; have BK104 := n2_; have HB := n3_; clear n0_ n1_ n2_ n3_; (try clear hb); (try clear hb2); (try clear hk); (try clear hi)))
          go_ret
          exact ⟨by first | rfl | (simp [errW_none, errW_some] <;> rfl) | (simp [*, errW_none, errW_some] <;> rfl), bB HB.out⟩
        ·rw [if_neg c19] at H
         exact absurd H (by simp)
       ·rw [if_neg c18] at H
        exact absurd H (by simp)
      ·rw [if_neg c17] at H
       have c17b0 : decide (x32_2 < (l0_1.length : Int)) = false := decide_eq_false c17
       clear c17
       replace H := Option.bind_eq_some_iff.mp H
       obtain ⟨t106, A690, H⟩ := H
       replace H : (some (!t106)) = some r := H
       have A69 := am A690; clear A690
       obtain rfl := Option.some.inj H
       have hnb70 := NB101_102.out; have hnc70 := NB102_101.out
       have hcz71_0 : wr.cell? ⟨gb101, 0, none⟩ = some (.int .i64 a0_0) := (blk_cell BK101.out 0).trans rfl
       have hcz71_1 : wr.cell? ⟨gb101, 1, none⟩ = some (.slice A0_1 l0_1.length c0_1) := (blk_cell BK101.out 1).trans rfl
       have hcz71_2 : wr.cell? ⟨gb101, 2, none⟩ = some (.slice A0_2 l0_2.length c0_2) := (blk_cell BK101.out 2).trans rfl
       have hfz71_0 := blk_frozen BK101.out 0; have hfz71_1 := blk_frozen BK101.out 1; have hfz71_2 := blk_frozen BK101.out 2
       go_wp2_with (first | ((with_reducible refine gate_callee (f := 59) rfl ?_); refine goesL_ (some 68) rfl rfl Try.func59 (by kernel_rfl) rfl #[.slice A0_2 l0_2.length c0_2, .func (.func 60) #[] #[.pointer (some ⟨gb102, 0, none⟩)]] rfl bE ?_; (with_reducible refine (slices_ContainsFunc_int_int.calls _ _ l0_2 x103000_2 t106 _ ?side1 ?side2 A69.out).mono ?_); (case side1 => exact bD ((Kd.C_below HR0_2.out HB.out))); (case side2 => exact HC0_2.out); rintro e w' ⟨rfl, ⟨nd, rfl⟩⟩; refine ⟨_, rfl, ?_⟩))
       go_ret
       exact ⟨by first | rfl | (simp [errW_none, errW_some] <;> rfl) | (simp [*, errW_none, errW_some] <;> rfl), bB HB.out⟩


theorem qa28 {α : Type} (l : List α) (i : Nat) (a : α) : l.toArray.setIfInBounds i a = (l.set i a).toArray := List.setIfInBounds_toArray ..
theorem qb28 {α : Type} (x a : α) (l : List α) : (x :: l).set 0 a = a :: l := rfl
theorem qc28 {α : Type} (x a : α) (l : List α) (n : Nat) : (x :: l).set (n + 1) a = x :: l.set n a := rfl
/-! ### impl_LookUp: function 28 -/
def impl_LookUp.f (k : Nat) (a0_0 : Int) (a0_1 : Int) (a0_2 : Int) (a0_3 : Int) (a0_4 : Int) (a0_5 : Int) (a0_6 : Int) (a0_7 : Int) (a0_8 : Int) (a1 : Int) (a2 : Int) : Option (Int) := (impl_IsTable.f a0_0 a0_1 a0_2 a0_3 a0_4 a0_5 a0_6 a0_7 a0_8).bind fun t102 => (if t102 = true then ((impl_trits.f k (([a1, a2] : List Int))).bind fun t106 => (if t106 = true then (if 0 ≤ (wrap64 ((wrap64 ((wrap64 (3 * (wrap64 (a1 + 1)))) + a2)) + 1)) then (if (wrap64 ((wrap64 ((wrap64 (3 * (wrap64 (a1 + 1)))) + a2)) + 1)) < 9 then (some (rd ([a0_0, a0_1, a0_2, a0_3, a0_4, a0_5, a0_6, a0_7, a0_8] : List Int) (wrap64 ((wrap64 ((wrap64 (3 * (wrap64 (a1 + 1)))) + a2)) + 1)))) else (none)) else (none)) else (some 0))) else (some 0))
theorem impl_LookUp.mono : ∀ a0 a1 a2 a3 a4 a5 a6 a7 a8 a9 a10 k, LeO (impl_LookUp.f k a0 a1 a2 a3 a4 a5 a6 a7 a8 a9 a10) (impl_LookUp.f (k + 1) a0 a1 a2 a3 a4 a5 a6 a7 a8 a9 a10) := by
 intro a0 a1 a2 a3 a4 a5 a6 a7 a8 a9 a10 k
 unfold impl_LookUp.f
 repeat' first
   | (with_reducible exact impl_trits.mono _ _)
   | (with_reducible exact LeO.refl _)
   | (with_reducible exact LeO.none _)
   | (with_reducible refine LeO.ite ?_ ?_)
   | (with_reducible refine LeO.bind ?_ (fun _ => ?_))
   | exact impl_trits.mono _ _
   | exact LeO.none _
   | refine LeO.ite ?_ ?_
   | refine LeO.bind ?_ (fun _ => ?_)
set_option maxHeartbeats 8000000 in
set_option maxRecDepth 100000 in
theorem impl_LookUp.calls (k : Nat) (a0_0 : Int) (a0_1 : Int) (a0_2 : Int) (a0_3 : Int) (a0_4 : Int) (a0_5 : Int) (a0_6 : Int) (a0_7 : Int) (a0_8 : Int) (a1 : Int) (a2 : Int) (r : Int) (w : World) (h : impl_LookUp.f k a0_0 a0_1 a0_2 a0_3 a0_4 a0_5 a0_6 a0_7 a0_8 a1 a2 = some r) :
  Calls Try.prog 28 #[.agg #[.int .i64 a0_0, .int .i64 a0_1, .int .i64 a0_2, .int .i64 a0_3, .int .i64 a0_4, .int .i64 a0_5, .int .i64 a0_6, .int .i64 a0_7, .int .i64 a0_8], .int .i64 a1, .int .i64 a2] w fun e w' => e = .returned (.int .i64 r) ∧ Below w.heap.size w w' := by
 have hu23 := Try.underlying23; have HB := am (Below.refl w.heap.size w)
 have H : ((impl_IsTable.f a0_0 a0_1 a0_2 a0_3 a0_4 a0_5 a0_6 a0_7 a0_8).bind fun t102 => (if t102 = true then ((impl_trits.f k (([a1, a2] : List Int))).bind fun t106 => (if t106 = true then (if 0 ≤ (wrap64 ((wrap64 ((wrap64 (3 * (wrap64 (a1 + 1)))) + a2)) + 1)) then (if (wrap64 ((wrap64 ((wrap64 (3 * (wrap64 (a1 + 1)))) + a2)) + 1)) < 9 then (some (rd ([a0_0, a0_1, a0_2, a0_3, a0_4, a0_5, a0_6, a0_7, a0_8] : List Int) (wrap64 ((wrap64 ((wrap64 (3 * (wrap64 (a1 + 1)))) + a2)) + 1)))) else (none)) else (none)) else (some 0))) else (some 0))) = some r := h
 clear h
 replace H := Option.bind_eq_some_iff.mp H
 obtain ⟨t102, A40, H⟩ := H
 replace H : (if t102 = true then ((impl_trits.f k (([a1, a2] : List Int))).bind fun t106 => (if t106 = true then (if 0 ≤ (wrap64 ((wrap64 ((wrap64 (3 * (wrap64 (a1 + 1)))) + a2)) + 1)) then (if (wrap64 ((wrap64 ((wrap64 (3 * (wrap64 (a1 + 1)))) + a2)) + 1)) < 9 then (some (rd ([a0_0, a0_1, a0_2, a0_3, a0_4, a0_5, a0_6, a0_7, a0_8] : List Int) (wrap64 ((wrap64 ((wrap64 (3 * (wrap64 (a1 + 1)))) + a2)) + 1)))) else (none)) else (none)) else (some 0))) else (some 0)) = some r := H
 have A4 := am A40; clear A40
 by_cases c5 : t102 = true
 ·subst c5
  have H1 : ((impl_trits.f k (([a1, a2] : List Int))).bind fun t106 => (if t106 = true then (if 0 ≤ (wrap64 ((wrap64 ((wrap64 (3 * (wrap64 (a1 + 1)))) + a2)) + 1)) then (if (wrap64 ((wrap64 ((wrap64 (3 * (wrap64 (a1 + 1)))) + a2)) + 1)) < 9 then (some (rd ([a0_0, a0_1, a0_2, a0_3, a0_4, a0_5, a0_6, a0_7, a0_8] : List Int) (wrap64 ((wrap64 ((wrap64 (3 * (wrap64 (a1 + 1)))) + a2)) + 1)))) else (none)) else (none)) else (some 0))) = some r := by rw [if_pos rfl] at H; exact H
  clear H; have H := H1; clear H1
  obtain ⟨y103, hy103⟩ : ∃ y_ : List Int, y_ = (([a1, a2] : List Int)) := ⟨_, rfl⟩
  replace H : ((impl_trits.f k y103).bind fun t106 => (if t106 = true then (if 0 ≤ (wrap64 ((wrap64 ((wrap64 (3 * (wrap64 (a1 + 1)))) + a2)) + 1)) then (if (wrap64 ((wrap64 ((wrap64 (3 * (wrap64 (a1 + 1)))) + a2)) + 1)) < 9 then (some (rd ([a0_0, a0_1, a0_2, a0_3, a0_4, a0_5, a0_6, a0_7, a0_8] : List Int) (wrap64 ((wrap64 ((wrap64 (3 * (wrap64 (a1 + 1)))) + a2)) + 1)))) else (none)) else (none)) else (some 0))) = some r := by first | (rw [hy103]; with_reducible exact H) | (have H2_ := (Option.bind_some _ _).symm.trans H; rw [hy103]; with_reducible exact H2_) | (have H2_ := (Option.bind_some _ _).symm.trans H; with_reducible exact H2_) | with_reducible exact H | (rw [hy103]; exact H) | exact H
  have Ny103 := am hy103; clear hy103
  replace H := Option.bind_eq_some_iff.mp H
  obtain ⟨t106, A60, H⟩ := H
  replace H : (if t106 = true then (if 0 ≤ (wrap64 ((wrap64 ((wrap64 (3 * (wrap64 (a1 + 1)))) + a2)) + 1)) then (if (wrap64 ((wrap64 ((wrap64 (3 * (wrap64 (a1 + 1)))) + a2)) + 1)) < 9 then (some (rd ([a0_0, a0_1, a0_2, a0_3, a0_4, a0_5, a0_6, a0_7, a0_8] : List Int) (wrap64 ((wrap64 ((wrap64 (3 * (wrap64 (a1 + 1)))) + a2)) + 1)))) else (none)) else (none)) else (some 0)) = some r := H
  have A6 := am A60; clear A60
  by_cases c7 : t106 = true
  ·subst c7
   have H1 : (if 0 ≤ (wrap64 ((wrap64 ((wrap64 (3 * (wrap64 (a1 + 1)))) + a2)) + 1)) then (if (wrap64 ((wrap64 ((wrap64 (3 * (wrap64 (a1 + 1)))) + a2)) + 1)) < 9 then (some (rd ([a0_0, a0_1, a0_2, a0_3, a0_4, a0_5, a0_6, a0_7, a0_8] : List Int) (wrap64 ((wrap64 ((wrap64 (3 * (wrap64 (a1 + 1)))) + a2)) + 1)))) else (none)) else (none)) = some r := by rw [if_pos rfl] at H; exact H
   clear H; have H := H1; clear H1
   obtain ⟨ji8, hji8⟩ : ∃ j_ : Int, (wrap64 ((wrap64 ((wrap64 (3 * (wrap64 (a1 + 1)))) + a2)) + 1)) = j_ := ⟨_, rfl⟩
   replace H : (if 0 ≤ (ji8) then (if (ji8) < 9 then (some (rd ([a0_0, a0_1, a0_2, a0_3, a0_4, a0_5, a0_6, a0_7, a0_8] : List Int) (ji8))) else (none)) else (none)) = some r := by first | (rw [hji8] at H; exact H) | (simp only [hji8] at H ⊢; exact H)
   (try rw [hji8] at A4)
   (try rw [hji8] at A6)
   have hji8w : (IntKind.i64.wrap ((wrap64 ((wrap64 (3 * (wrap64 (a1 + 1)))) + a2)) + 1)) = ji8 := (i64_w _).trans hji8
   by_cases c9 : 0 ≤ (ji8)
   ·rw [if_pos c9] at H
    have c9b0 : decide (0 ≤ (ji8)) = true := decide_eq_true c9
    clear c9
    by_cases c10 : (ji8) < 9
    ·rw [if_pos c10] at H
     have c10b0 : decide ((ji8) < 9) = true := decide_eq_true c10
     clear c10
     obtain rfl := Option.some.inj H
     go_enter Try.func28, Try.ntmps28
     go_wp2_with (first | ((with_reducible refine gate_dst (N := 3) rfl ?_); (try (refine gate_guard (by rfl) ?_; dsimp only)); refine box_event ?hg (N := 3) ?hd (cs := #[.int .i64 a0_0, .int .i64 a0_1, .int .i64 a0_2, .int .i64 a0_3, .int .i64 a0_4, .int .i64 a0_5, .int .i64 a0_6, .int .i64 a0_7, .int .i64 a0_8]) (t := 23) ?hr ?_; (case hd => rfl); (case hg => rfl); (case hr => first | (go_simp; done) | (go_simp; rfl)); intro gb101 hg w11 hbox hb; have n0_ := am (below_step (bB HB.out) hb); have n1_ := am (hbox); have n2_ := am ((by rw [hg]; exact (below_size (bB HB.out)) : w.heap.size ≤ gb101)); have n3_ := am ((by rw [hg]; exact (below_size (bB HB.out)) : w.heap.size ≤ gb101)); clear HB; have HB := n0_; have BK101 := n1_; have GW101 := n2_; have GE101 := n3_; clear n0_ n1_ n2_ n3_; clear hb hbox hg; have hcz12_0 : w11.cell? ⟨gb101, 0, none⟩ = some (.int .i64 a0_0) := (blk_cell BK101.out 0).trans rfl; have hcz12_1 : w11.cell? ⟨gb101, 1, none⟩ = some (.int .i64 a0_1) := (blk_cell BK101.out 1).trans rfl; have hcz12_2 : w11.cell? ⟨gb101, 2, none⟩ = some (.int .i64 a0_2) := (blk_cell BK101.out 2).trans rfl; have hcz12_3 : w11.cell? ⟨gb101, 3, none⟩ = some (.int .i64 a0_3) := (blk_cell BK101.out 3).trans rfl; have hcz12_4 : w11.cell? ⟨gb101, 4, none⟩ = some (.int .i64 a0_4) := (blk_cell BK101.out 4).trans rfl; have hcz12_5 : w11.cell? ⟨gb101, 5, none⟩ = some (.int .i64 a0_5) := (blk_cell BK101.out 5).trans rfl; have hcz12_6 : w11.cell? ⟨gb101, 6, none⟩ = some (.int .i64 a0_6) := (blk_cell BK101.out 6).trans rfl; have hcz12_7 : w11.cell? ⟨gb101, 7, none⟩ = some (.int .i64 a0_7) := (blk_cell BK101.out 7).trans rfl; have hcz12_8 : w11.cell? ⟨gb101, 8, none⟩ = some (.int .i64 a0_8) := (blk_cell BK101.out 8).trans rfl; have hfz12_0 := blk_frozen BK101.out 0; have hfz12_1 := blk_frozen BK101.out 1; have hfz12_2 := blk_frozen BK101.out 2; have hfz12_3 := blk_frozen BK101.out 3; have hfz12_4 := blk_frozen BK101.out 4; have hfz12_5 := blk_frozen BK101.out 5; have hfz12_6 := blk_frozen BK101.out 6; have hfz12_7 := blk_frozen BK101.out 7; have hfz12_8 := blk_frozen BK101.out 8) | ((with_reducible refine gate_callee (f := 58) rfl ?_); refine goesL_ (some 8) rfl rfl Try.func58 (by kernel_rfl) rfl #[.agg #[.int .i64 a0_0, .int .i64 a0_1, .int .i64 a0_2, .int .i64 a0_3, .int .i64 a0_4, .int .i64 a0_5, .int .i64 a0_6, .int .i64 a0_7, .int .i64 a0_8]] rfl bE ?_; (with_reducible refine (impl_IsTable.calls a0_0 a0_1 a0_2 a0_3 a0_4 a0_5 a0_6 a0_7 a0_8 true _ A4.out).mono ?_); rintro e w13 ⟨rfl, hb⟩; refine ⟨_, rfl, ?_⟩; have n0_ := am (blk_below (bA BK101.out) hb); have n1_ := am (below_step (bB HB.out) hb); clear BK101; clear HB; have BK101 := n0_; have HB := n1_; clear n0_ n1_; (try clear hb); (try clear hb2); (try clear hk); (try clear hi)) | ((with_reducible refine gate_dst (N := 13) rfl ?_); (try (refine gate_guard (by rfl) ?_; dsimp only)); refine Kd.R_lit (Kd.int .i64) _ 3 ?hg (N := 13) ?hd (xs := ([a1, a2] : List Int)) (inner := [.int .i64 a1, .int .i64 a2]) (ok := fun _ => True) (okp := fun _ => True) ?hr ?hp (fun _ hk => hk) trivial (Below.refl _ _) (Nat.le_refl _) (by simp) ?_; (case hd => rfl); (case hg => rfl); (case hr => first | (go_simp; done) | (go_simp; rfl)); (case hp => exact (Reps.one (show Kd.M (Kd.int .i64) _ _ _ a1 [.int .i64 a1] from rfl) (Reps.one (show Kd.M (Kd.int .i64) _ _ _ a2 [.int .i64 a2] from rfl) (Reps.none _ _)))); intro v104 w14 ho15 hb hg_ hnew_; clear hg_ hnew_; (first | rw [← Ny103.out] at ho15 | (simp only [Int.reduceToNat] at ho15; rw [← Ny103.out] at ho15)); have n0_ := am (Kd.R_lower ho15 (below_size (bB HB.out))); have n1_ := am (blk_below (bA BK101.out) hb); have n2_ := am (below_step (bB HB.out) hb); clear BK101; clear HB; have HO105 := n0_; have BK101 := n1_; have HB := n2_; clear n0_ n1_ n2_; clear hb ho15; obtain ⟨Ao16, co16, eo16⟩ := Kd.R_slice HO105.out; subst eo16) | (go_at_call 65; (with_reducible refine (impl_trits.calls k _ _ y103 true _ ?side1 ?side2 A6.out).mono ?_); (case side1 => exact bD ((Kd.R_reads' HO105.out).2.2)); (case side2 => exact (Kd.R_reads' HO105.out).2.1); rintro e w' ⟨rfl, ⟨nd, rfl⟩⟩; have pj17 : 0 ≤ ((ji8) : Int) := of_decide_eq_true (by assumption); have qj17 : ((ji8) : Int) < 9 := of_decide_eq_true (by assumption); have hcz18_0 : w14.cell? ⟨gb101, 0, none⟩ = some (.int .i64 a0_0) := (blk_cell BK101.out 0).trans rfl; have hcz18_1 : w14.cell? ⟨gb101, 1, none⟩ = some (.int .i64 a0_1) := (blk_cell BK101.out 1).trans rfl; have hcz18_2 : w14.cell? ⟨gb101, 2, none⟩ = some (.int .i64 a0_2) := (blk_cell BK101.out 2).trans rfl; have hcz18_3 : w14.cell? ⟨gb101, 3, none⟩ = some (.int .i64 a0_3) := (blk_cell BK101.out 3).trans rfl; have hcz18_4 : w14.cell? ⟨gb101, 4, none⟩ = some (.int .i64 a0_4) := (blk_cell BK101.out 4).trans rfl; have hcz18_5 : w14.cell? ⟨gb101, 5, none⟩ = some (.int .i64 a0_5) := (blk_cell BK101.out 5).trans rfl; have hcz18_6 : w14.cell? ⟨gb101, 6, none⟩ = some (.int .i64 a0_6) := (blk_cell BK101.out 6).trans rfl; have hcz18_7 : w14.cell? ⟨gb101, 7, none⟩ = some (.int .i64 a0_7) := (blk_cell BK101.out 7).trans rfl; have hcz18_8 : w14.cell? ⟨gb101, 8, none⟩ = some (.int .i64 a0_8) := (blk_cell BK101.out 8).trans rfl; have hfz18_0 := blk_frozen BK101.out 0; have hfz18_1 := blk_frozen BK101.out 1; have hfz18_2 := blk_frozen BK101.out 2; have hfz18_3 := blk_frozen BK101.out 3; have hfz18_4 := blk_frozen BK101.out 4; have hfz18_5 := blk_frozen BK101.out 5; have hfz18_6 := blk_frozen BK101.out 6; have hfz18_7 := blk_frozen BK101.out 7; have hfz18_8 := blk_frozen BK101.out 8; have ha17 := (arrAt_ [a0_0, a0_1, a0_2, a0_3, a0_4, a0_5, a0_6, a0_7, a0_8] [] BK101.out rfl pj17 qj17 rfl)))
     go_ret
     exact ⟨by first | rfl | (simp [errW_none, errW_some] <;> rfl) | (simp only [← hji8]; first | rfl | (simp [errW_none, errW_some] <;> rfl)) | (simp [*, errW_none, errW_some] <;> rfl), bB HB.out⟩
    ·rw [if_neg c10] at H
     exact absurd H (by simp)
   ·rw [if_neg c9] at H
    exact absurd H (by simp)
  ·replace c7 := Bool.eq_false_iff.mpr c7
   subst c7
   have H1 : (some 0) = some r := by rw [if_neg (show ¬ (false = true) by decide)] at H; exact H
   clear H; have H := H1; clear H1
   obtain rfl := Option.some.inj H
   go_enter Try.func28, Try.ntmps28
   go_wp2_with (first | ((with_reducible refine gate_dst (N := 3) rfl ?_); (try (refine gate_guard (by rfl) ?_; dsimp only)); refine box_event ?hg (N := 3) ?hd (cs := #[.int .i64 a0_0, .int .i64 a0_1, .int .i64 a0_2, .int .i64 a0_3, .int .i64 a0_4, .int .i64 a0_5, .int .i64 a0_6, .int .i64 a0_7, .int .i64 a0_8]) (t := 23) ?hr ?_; (case hd => rfl); (case hg => rfl); (case hr => first | (go_simp; done) | (go_simp; rfl)); intro gb101 hg w19 hbox hb; have n0_ := am (below_step (bB HB.out) hb); have n1_ := am (hbox); have n2_ := am ((by rw [hg]; exact (below_size (bB HB.out)) : w.heap.size ≤ gb101)); have n3_ := am ((by rw [hg]; exact (below_size (bB HB.out)) : w.heap.size ≤ gb101)); clear HB; have HB := n0_; have BK101 := n1_; have GW101 := n2_; have GE101 := n3_; clear n0_ n1_ n2_ n3_; clear hb hbox hg; have hcz20_0 : w19.cell? ⟨gb101, 0, none⟩ = some (.int .i64 a0_0) := (blk_cell BK101.out 0).trans rfl; have hcz20_1 : w19.cell? ⟨gb101, 1, none⟩ = some (.int .i64 a0_1) := (blk_cell BK101.out 1).trans rfl; have hcz20_2 : w19.cell? ⟨gb101, 2, none⟩ = some (.int .i64 a0_2) := (blk_cell BK101.out 2).trans rfl; have hcz20_3 : w19.cell? ⟨gb101, 3, none⟩ = some (.int .i64 a0_3) := (blk_cell BK101.out 3).trans rfl; have hcz20_4 : w19.cell? ⟨gb101, 4, none⟩ = some (.int .i64 a0_4) := (blk_cell BK101.out 4).trans rfl; have hcz20_5 : w19.cell? ⟨gb101, 5, none⟩ = some (.int .i64 a0_5) := (blk_cell BK101.out 5).trans rfl; have hcz20_6 : w19.cell? ⟨gb101, 6, none⟩ = some (.int .i64 a0_6) := (blk_cell BK101.out 6).trans rfl; have hcz20_7 : w19.cell? ⟨gb101, 7, none⟩ = some (.int .i64 a0_7) := (blk_cell BK101.out 7).trans rfl; have hcz20_8 : w19.cell? ⟨gb101, 8, none⟩ = some (.int .i64 a0_8) := (blk_cell BK101.out 8).trans rfl; have hfz20_0 := blk_frozen BK101.out 0; have hfz20_1 := blk_frozen BK101.out 1; have hfz20_2 := blk_frozen BK101.out 2; have hfz20_3 := blk_frozen BK101.out 3; have hfz20_4 := blk_frozen BK101.out 4; have hfz20_5 := blk_frozen BK101.out 5; have hfz20_6 := blk_frozen BK101.out 6; have hfz20_7 := blk_frozen BK101.out 7; have hfz20_8 := blk_frozen BK101.out 8) | ((with_reducible refine gate_callee (f := 58) rfl ?_); refine goesL_ (some 8) rfl rfl Try.func58 (by kernel_rfl) rfl #[.agg #[.int .i64 a0_0, .int .i64 a0_1, .int .i64 a0_2, .int .i64 a0_3, .int .i64 a0_4, .int .i64 a0_5, .int .i64 a0_6, .int .i64 a0_7, .int .i64 a0_8]] rfl bE ?_; (with_reducible refine (impl_IsTable.calls a0_0 a0_1 a0_2 a0_3 a0_4 a0_5 a0_6 a0_7 a0_8 true _ A4.out).mono ?_); rintro e w21 ⟨rfl, hb⟩; refine ⟨_, rfl, ?_⟩; have n0_ := am (blk_below (bA BK101.out) hb); have n1_ := am (below_step (bB HB.out) hb); clear BK101; clear HB; have BK101 := n0_; have HB := n1_; clear n0_ n1_; (try clear hb); (try clear hb2); (try clear hk); (try clear hi)) | ((with_reducible refine gate_dst (N := 13) rfl ?_); (try (refine gate_guard (by rfl) ?_; dsimp only)); refine Kd.R_lit (Kd.int .i64) _ 3 ?hg (N := 13) ?hd (xs := ([a1, a2] : List Int)) (inner := [.int .i64 a1, .int .i64 a2]) (ok := fun _ => True) (okp := fun _ => True) ?hr ?hp (fun _ hk => hk) trivial (Below.refl _ _) (Nat.le_refl _) (by simp) ?_; (case hd => rfl); (case hg => rfl); (case hr => first | (go_simp; done) | (go_simp; rfl)); (case hp => exact (Reps.one (show Kd.M (Kd.int .i64) _ _ _ a1 [.int .i64 a1] from rfl) (Reps.one (show Kd.M (Kd.int .i64) _ _ _ a2 [.int .i64 a2] from rfl) (Reps.none _ _)))); intro v104 w22 ho23 hb hg_ hnew_; clear hg_ hnew_; (first | rw [← Ny103.out] at ho23 | (simp only [Int.reduceToNat] at ho23; rw [← Ny103.out] at ho23)); have n0_ := am (Kd.R_lower ho23 (below_size (bB HB.out))); have n1_ := am (blk_below (bA BK101.out) hb); have n2_ := am (below_step (bB HB.out) hb); clear BK101; clear HB; have HO105 := n0_; have BK101 := n1_; have HB := n2_; clear n0_ n1_ n2_; clear hb ho23; obtain ⟨Ao24, co24, eo24⟩ := Kd.R_slice HO105.out; subst eo24) | (go_at_call 65; (with_reducible refine (impl_trits.calls k _ _ y103 false _ ?side1 ?side2 A6.out).mono ?_); (case side1 => exact bD ((Kd.R_reads' HO105.out).2.2)); (case side2 => exact (Kd.R_reads' HO105.out).2.1); rintro e w' ⟨rfl, ⟨nd, rfl⟩⟩))
   go_ret
   exact ⟨by first | rfl | (simp [errW_none, errW_some] <;> rfl) | (simp [*, errW_none, errW_some] <;> rfl), bB HB.out⟩
 ·replace c5 := Bool.eq_false_iff.mpr c5
  subst c5
  have H1 : (some 0) = some r := by rw [if_neg (show ¬ (false = true) by decide)] at H; exact H
  clear H; have H := H1; clear H1
  obtain rfl := Option.some.inj H
  go_enter Try.func28, Try.ntmps28
  go_wp2_with (first | ((with_reducible refine gate_dst (N := 3) rfl ?_); (try (refine gate_guard (by rfl) ?_; dsimp only)); refine box_event ?hg (N := 3) ?hd (cs := #[.int .i64 a0_0, .int .i64 a0_1, .int .i64 a0_2, .int .i64 a0_3, .int .i64 a0_4, .int .i64 a0_5, .int .i64 a0_6, .int .i64 a0_7, .int .i64 a0_8]) (t := 23) ?hr ?_; (case hd => rfl); (case hg => rfl); (case hr => first | (go_simp; done) | (go_simp; rfl)); intro gb101 hg w25 hbox hb; have n0_ := am (below_step (bB HB.out) hb); have n1_ := am (hbox); have n2_ := am ((by rw [hg]; exact (below_size (bB HB.out)) : w.heap.size ≤ gb101)); have n3_ := am ((by rw [hg]; exact (below_size (bB HB.out)) : w.heap.size ≤ gb101)); clear HB; have HB := n0_; have BK101 := n1_; have GW101 := n2_; have GE101 := n3_; clear n0_ n1_ n2_ n3_; clear hb hbox hg; have hcz26_0 : w25.cell? ⟨gb101, 0, none⟩ = some (.int .i64 a0_0) := (blk_cell BK101.out 0).trans rfl; have hcz26_1 : w25.cell? ⟨gb101, 1, none⟩ = some (.int .i64 a0_1) := (blk_cell BK101.out 1).trans rfl; have hcz26_2 : w25.cell? ⟨gb101, 2, none⟩ = some (.int .i64 a0_2) := (blk_cell BK101.out 2).trans rfl; have hcz26_3 : w25.cell? ⟨gb101, 3, none⟩ = some (.int .i64 a0_3) := (blk_cell BK101.out 3).trans rfl; have hcz26_4 : w25.cell? ⟨gb101, 4, none⟩ = some (.int .i64 a0_4) := (blk_cell BK101.out 4).trans rfl; have hcz26_5 : w25.cell? ⟨gb101, 5, none⟩ = some (.int .i64 a0_5) := (blk_cell BK101.out 5).trans rfl; have hcz26_6 : w25.cell? ⟨gb101, 6, none⟩ = some (.int .i64 a0_6) := (blk_cell BK101.out 6).trans rfl; have hcz26_7 : w25.cell? ⟨gb101, 7, none⟩ = some (.int .i64 a0_7) := (blk_cell BK101.out 7).trans rfl; have hcz26_8 : w25.cell? ⟨gb101, 8, none⟩ = some (.int .i64 a0_8) := (blk_cell BK101.out 8).trans rfl; have hfz26_0 := blk_frozen BK101.out 0; have hfz26_1 := blk_frozen BK101.out 1; have hfz26_2 := blk_frozen BK101.out 2; have hfz26_3 := blk_frozen BK101.out 3; have hfz26_4 := blk_frozen BK101.out 4; have hfz26_5 := blk_frozen BK101.out 5; have hfz26_6 := blk_frozen BK101.out 6; have hfz26_7 := blk_frozen BK101.out 7; have hfz26_8 := blk_frozen BK101.out 8) | ((with_reducible refine gate_callee (f := 58) rfl ?_); refine goesL_ (some 8) rfl rfl Try.func58 (by kernel_rfl) rfl #[.agg #[.int .i64 a0_0, .int .i64 a0_1, .int .i64 a0_2, .int .i64 a0_3, .int .i64 a0_4, .int .i64 a0_5, .int .i64 a0_6, .int .i64 a0_7, .int .i64 a0_8]] rfl bE ?_; (with_reducible refine (impl_IsTable.calls a0_0 a0_1 a0_2 a0_3 a0_4 a0_5 a0_6 a0_7 a0_8 false _ A4.out).mono ?_); rintro e w27 ⟨rfl, hb⟩; refine ⟨_, rfl, ?_⟩; have n0_ := am (blk_below (bA BK101.out) hb); have n1_ := am (below_step (bB HB.out) hb); clear BK101; clear HB; have BK101 := n0_; have HB := n1_; clear n0_ n1_; (try clear hb); (try clear hb2); (try clear hk); (try clear hi)))
  go_ret
  exact ⟨by first | rfl | (simp [errW_none, errW_some] <;> rfl) | (simp [*, errW_none, errW_some] <;> rfl), bB HB.out⟩

/-! ### slices_Grow_int_int: function 103 -/
def slices_Grow_int_int.f (l0 : List Int) (a1 : Int) : Option (List Int) := if 0 ≤ a1 then (if a1 < 17592186044416 then (if l0.length = 0 then some [] else none) else none) else none
set_option maxHeartbeats 8000000 in
set_option maxRecDepth 100000 in
/-- Grow of nil: a row of its own without elements. -/
theorem slices_Grow_int_int.calls (A0 : Option Addr) (c0 : Nat) (l0 : List Int) (a1 : Int) (r : List Int) (w : World) (hr0 : Kd.C (Kd.int .i64) w A0 l0.length l0) (hc0 : l0.length ≤ c0) (h : slices_Grow_int_int.f l0 a1 = some r) (hA : A0 = none := by rfl) (hc : c0 = 0 := by rfl) :
    Calls Try.prog 103 #[.slice A0 l0.length c0, .int .i64 a1] w fun e w' => ∃ v0_ : Value, e = .returned (v0_) ∧ Kd.R (Kd.int .i64) 3 w' w.heap.size (fun _ => True) v0_ r ∧ Below w.heap.size w w' := by
  subst hA
  subst hc
  obtain rfl : l0 = [] := List.length_eq_zero_iff.1 (by omega)
  unfold slices_Grow_int_int.f at h
  by_cases c1 : 0 ≤ a1
  · rw [if_pos c1] at h
    by_cases c2 : a1 < 17592186044416
    · rw [if_pos c2, if_pos List.length_nil] at h
      obtain rfl := Option.some.inj h
      clear h hr0 hc0
      have HB := Aside0.mk (Below.refl w.heap.size w)
      have b1 : decide (a1 < 0) = false := decide_eq_false (by omega)
      by_cases c3 : a1 = 0
      · subst c3
        go_enter Try.func103, Try.ntmps103
        go_wp2
        go_ret
        exact ⟨_, rfl, Kd.R_nil _ _ _ _ _, HB.out⟩
      · have b2 : decide (a1 > 0) = true := decide_eq_true (by omega)
        have hr0 := Aside0.mk (Kd.R_nil (Kd.int .i64) 3 w w.heap.size (fun _ => True))
        go_enter Try.func103, Try.ntmps103
        go_wp2_with ((with_reducible refine gate_builtin (b := .append) (xs := #[.tmp 20, .tmp 21]) rfl ?_); at_builtin; refine Kd.R_append_zeros (Kd.int .i64) (w0 := w) w.heap.size rfl (.tmp 20) (.tmp 21) 28 3 3 (.int .i64 0) 8 rfl Try.underlying28 Try.underlying3 info3 rfl (by decide) (by omega) (.slice none 0 0) [] 0 a1 (fun _ => True) rfl rfl rfl (fun _ _ => trivial) hr0.out c1 HB.out (Nat.le_refl _) (by simp; omega) ?_; intro v1 w1 ho hb hg hat; clear hr0 hg hat; obtain ⟨g, cap, rfl, _, _, _⟩ := Kd.R_form ho (by simp; omega); have HO := Aside0.mk ho; have HB1 := Aside0.mk hb; clear ho hb)
        go_ret
        exact ⟨_, rfl, Kd.R_take (m := 0) HO.out (Nat.zero_le _), HB1.out⟩
    · rw [if_neg c2] at h
      exact absurd h (by simp)
  · rw [if_neg c1] at h
    exact absurd h (by simp)


theorem qa86 {α : Type} (l : List α) (i : Nat) (a : α) : l.toArray.setIfInBounds i a = (l.set i a).toArray := List.setIfInBounds_toArray ..
theorem qb86 {α : Type} (x a : α) (l : List α) : (x :: l).set 0 a = a :: l := rfl
theorem qc86 {α : Type} (x a : α) (l : List α) (n : Nat) : (x :: l).set (n + 1) a = x :: l.set n a := rfl
/-! ### slices_Concat_int_int: function 86 -/
mutual
def slices_Concat_int_int.l0 : Nat → List (List Int) → Int → List (List Int) → Int → Int → Option (List Int)
 | 0, _, _, _, _, _ => none
 | k + 1, x0, x3, x9, x10, x11 => if x11 < x10 then (if 0 ≤ x11 then (if x11 < (x9.length : Int) then (if (wrap64 (x3 + ((rd_L6 x9 x11).length : Int))) < 0 then (none) else (slices_Concat_int_int.l0 k x0 (wrap64 (x3 + ((rd_L6 x9 x11).length : Int))) x9 x10 (wrap64 (x11 + 1)))) else (none)) else (none)) else ((slices_Grow_int_int.f ([] : List Int) x3).bind fun t102 => (slices_Concat_int_int.l1 k t102 x0 (x0.length : Int) 0))
def slices_Concat_int_int.l1 : Nat → List Int → List (List Int) → Int → Int → Option (List Int)
 | 0, _, _, _, _ => none
 | k + 1, x6, x25, x26, x27 => if x27 < x26 then (if 0 ≤ x27 then (if x27 < (x25.length : Int) then (if x6.length + (rd_L6 x25 x27).length < 17592186044416 then (slices_Concat_int_int.l1 k (x6 ++ (rd_L6 x25 x27)) x25 x26 (wrap64 (x27 + 1))) else (none)) else (none)) else (none)) else (some x6)
end
def slices_Concat_int_int.f (k : Nat) (l0 : List (List Int)) : Option (List Int) := slices_Concat_int_int.l0 k l0 0 l0 (l0.length : Int) 0
theorem slices_Concat_int_int.mono_l : ∀ k, (∀ y0 y1 y2 y3 y4, LeO (slices_Concat_int_int.l0 k y0 y1 y2 y3 y4) (slices_Concat_int_int.l0 (k + 1) y0 y1 y2 y3 y4)) ∧ (∀ y0 y1 y2 y3, LeO (slices_Concat_int_int.l1 k y0 y1 y2 y3) (slices_Concat_int_int.l1 (k + 1) y0 y1 y2 y3))
 | 0 => ⟨fun _ _ _ _ _ r h => by simp [slices_Concat_int_int.l0] at h, fun _ _ _ _ r h => by simp [slices_Concat_int_int.l1] at h⟩
 | k + 1 => by
  obtain ⟨ih0, ih1⟩ := slices_Concat_int_int.mono_l k
  refine ⟨?_, ?_⟩
  ·intro y0 y1 y2 y3 y4
   unfold slices_Concat_int_int.l0
   repeat' first
   | (with_reducible exact ih0 _ _ _ _ _)
   | (with_reducible exact ih1 _ _ _ _)
   | (with_reducible exact LeO.refl _)
   | (with_reducible exact LeO.none _)
   | (with_reducible refine LeO.ite ?_ ?_)
   | (with_reducible refine LeO.bind ?_ (fun _ => ?_))
   | exact ih0 _ _ _ _ _
   | exact ih1 _ _ _ _
   | exact LeO.none _
   | refine LeO.ite ?_ ?_
   | refine LeO.bind ?_ (fun _ => ?_)
  ·intro y0 y1 y2 y3
   unfold slices_Concat_int_int.l1
   repeat' first
   | (with_reducible exact ih0 _ _ _ _ _)
   | (with_reducible exact ih1 _ _ _ _)
   | (with_reducible exact LeO.refl _)
   | (with_reducible exact LeO.none _)
   | (with_reducible refine LeO.ite ?_ ?_)
   | (with_reducible refine LeO.bind ?_ (fun _ => ?_))
   | exact ih0 _ _ _ _ _
   | exact ih1 _ _ _ _
   | exact LeO.none _
   | refine LeO.ite ?_ ?_
   | refine LeO.bind ?_ (fun _ => ?_)
theorem slices_Concat_int_int.mono : ∀ a0 k, LeO (slices_Concat_int_int.f k a0) (slices_Concat_int_int.f (k + 1) a0) := by
 intro a0 k
 obtain ⟨ih0, ih1⟩ := slices_Concat_int_int.mono_l k
 unfold slices_Concat_int_int.f
 repeat' first
   | (with_reducible exact ih0 _ _ _ _ _)
   | (with_reducible exact ih1 _ _ _ _)
   | (with_reducible exact LeO.refl _)
   | (with_reducible exact LeO.none _)
   | (with_reducible refine LeO.ite ?_ ?_)
   | (with_reducible refine LeO.bind ?_ (fun _ => ?_))
   | exact ih0 _ _ _ _ _
   | exact ih1 _ _ _ _
   | exact LeO.none _
   | refine LeO.ite ?_ ?_
   | refine LeO.bind ?_ (fun _ => ?_)
set_option maxHeartbeats 8000000 in
set_option maxRecDepth 100000 in
theorem slices_Concat_int_int.calls (k : Nat) (A0 : Option Addr) (c0 : Nat) (l0 : List (List Int)) (r : List Int) (w : World) (hr0 : Kd.C (Kd.slice 3 (Kd.int .i64)) w A0 l0.length l0) (hc0 : l0.length ≤ c0) (h : slices_Concat_int_int.f k l0 = some r) :
  Calls Try.prog 86 #[.slice A0 l0.length c0] w fun e w' => ∃ v0_ : Value, e = .returned (v0_) ∧ Kd.R (Kd.int .i64) 3 w' w.heap.size (fun _ => True) v0_ r ∧ Below w.heap.size w w' := by
 have HR0 := am hr0; have HC0 := am hc0; clear hr0 hc0; have HB := am (Below.refl w.heap.size w)
 have H : (slices_Concat_int_int.l0 k l0 0 l0 (l0.length : Int) 0) = some r := h
 clear h
 have H' := am H
 clear H
 go_enter Try.func86, Try.ntmps86
 go_wp2
 go_loopg [3, 11] k (fun kq v3 v11 w' => ∃ (x3_1 : Int) (x11_1 : Int), v3 = .int .i64 x3_1 ∧ v11 = .int .i64 x11_1 ∧ Aside0 (slices_Concat_int_int.l0 kq l0 x3_1 l0 (l0.length : Int) x11_1 = some r) ∧ Aside0 (kq ≤ k) ∧ Aside0 (Below w.heap.size w w'))
 case atStart => exact ⟨(0), (0), (by first | rfl | (simp; done) | (simp [*]; done)), (by first | rfl | (simp; done) | (simp [*]; done)), H', ⟨Nat.le_refl _⟩, ⟨bB HB.out⟩⟩
 case round =>
  clear H'
  obtain ⟨x3_1, x11_1, rfl, rfl, HA, HK1, HB⟩ := hrel
  cases gk with
  | zero => exact absurd HA.out (by simp [slices_Concat_int_int.l0])
  | succ k1 =>
   have H := HA.out; clear HA
   simp only [slices_Concat_int_int.l0] at H
   by_cases c2 : x11_1 < (l0.length : Int)
   ·rw [if_pos c2] at H
    have c2b0 : decide (x11_1 < (l0.length : Int)) = true := decide_eq_true c2
    clear c2
    by_cases c3 : 0 ≤ x11_1
    ·rw [if_pos c3] at H
     have c3b0 : decide (0 ≤ x11_1) = true := decide_eq_true c3
     clear c3
     by_cases c4 : x11_1 < (l0.length : Int)
     ·rw [if_pos c4] at H
      have c4b0 : decide (x11_1 < (l0.length : Int)) = true := decide_eq_true c4
      clear c4
      by_cases c5 : (wrap64 (x3_1 + ((rd_L6 l0 x11_1).length : Int))) < 0
      ·rw [if_pos c5] at H
       exact absurd H (by simp)
      ·rw [if_neg c5] at H
       have c5b0 : decide ((wrap64 (x3_1 + ((rd_L6 l0 x11_1).length : Int))) < 0) = false := decide_eq_false c5
       clear c5
       have H' := am H
       clear H
       have p101 : 0 ≤ (x11_1 : Int) := of_decide_eq_true (by assumption)
       have q101 : x11_1 < (l0.length : Int) := of_decide_eq_true (by assumption)
       obtain ⟨ad101, A101_0, c101_0, e101, hx101_0, hl101_0, hi101_0⟩ := at_L6 HR0.out x11_1 p101 q101
       cases e101
       replace hx101_0 := (HB.out.cell (World.block_lt_of_cell? w _ hx101_0)).trans hx101_0
       have HR101_0 := am hi101_0; have HC101_0 := am hl101_0; clear hi101_0 hl101_0
       replace p101 := eq_true p101
       replace q101 := eq_true q101
       go_wp2
       go_roundg k1
       case measure => have := HK1.out; omega
       case rel => exact ⟨(wrap64 (x3_1 + ((rd_L6 l0 x11_1).length : Int))), (wrap64 (x11_1 + 1)), (by first | rfl | (simp; done) | (simp [*]; done)), (by first | rfl | (simp; done) | (simp [*]; done)), H', ⟨by have := HK1.out; omega⟩, ⟨bB HB.out⟩⟩
     ·rw [if_neg c4] at H
      exact absurd H (by simp)
    ·rw [if_neg c3] at H
     exact absurd H (by simp)
   ·rw [if_neg c2] at H
    have c2b0 : decide (x11_1 < (l0.length : Int)) = false := decide_eq_false c2
    clear c2
    replace H := Option.bind_eq_some_iff.mp H
    obtain ⟨t102, A60, H⟩ := H
    replace H : (slices_Concat_int_int.l1 k1 t102 l0 (l0.length : Int) 0) = some r := H
    have A6 := am A60; clear A60
    have H' := am H
    clear H
    go_wp2_with (first | ((with_reducible refine gate_callee (f := 103) rfl ?_); refine goesL_ (some 24) rfl rfl Try.func103 (by kernel_rfl) rfl #[.slice none 0 0, .int .i64 x3_1] rfl bE ?_; (refine (slices_Grow_int_int.calls _ _ ([] : List Int) x3_1 t102 _ ?side1 ?side2 A6.out).mono ?_); (case side1 => exact Kd.C_nil _ _); (case side2 => exact Nat.le_refl _); rintro e w7 ⟨v103, rfl, ho0, hb⟩; refine ⟨_, rfl, ?_⟩; have n0_ := am (Kd.R_lower ho0 (below_size (bB HB.out))); have n1_ := am (below_step (bB HB.out) hb); clear HB; have HO104 := n0_; have HB := n1_; clear n0_ n1_; (try clear hb); (try clear hb2); (try clear hk); (try clear hi); (try clear ho0)))
    go_loopg [6, 27] k1 (fun kq v6 v27 w' => ∃ (x6_2 : List Int) (x27_2 : Int), v27 = .int .i64 x27_2 ∧ Aside0 (slices_Concat_int_int.l1 kq x6_2 l0 (l0.length : Int) x27_2 = some r) ∧ Aside0 (kq ≤ k1) ∧ Aside0 (Kd.R (Kd.int .i64) 3 w' w.heap.size (fun _ => True) v6 x6_2) ∧ Aside0 (Below w.heap.size w w'))
    case atStart => exact ⟨(t102), (0), (by first | rfl | (simp; done) | (simp [*]; done)), H', ⟨Nat.le_refl _⟩, ⟨by (with_reducible repeat (first | apply Kd.R_alloc | apply Kd.R_drewN | apply Kd.R_drew)); exact HO104.out⟩, ⟨bB HB.out⟩⟩
    case round =>
     clear H'
     try clear c1
     try clear p1
     try clear q1
     try clear hx1
     try clear c2
     try clear c2b0
     try clear p2
     try clear c3
     try clear c3b0
     try clear c4
     try clear c4b0
     try clear c5
     try clear c5b0
     try clear p6
     try clear hx101_0
     try clear p101
     try clear q101
     obtain ⟨x6_2, x27_2, rfl, HA, HK2, HO_6, HB⟩ := hrel
     cases gk with
     | zero => exact absurd HA.out (by simp [slices_Concat_int_int.l1])
     | succ k2 =>
      have H := HA.out; clear HA
      simp only [slices_Concat_int_int.l1] at H
      by_cases c8 : x27_2 < (l0.length : Int)
      ·rw [if_pos c8] at H
       have c8b0 : decide (x27_2 < (l0.length : Int)) = true := decide_eq_true c8
       clear c8
       by_cases c9 : 0 ≤ x27_2
       ·rw [if_pos c9] at H
        have c9b0 : decide (0 ≤ x27_2) = true := decide_eq_true c9
        clear c9
        by_cases c10 : x27_2 < (l0.length : Int)
        ·rw [if_pos c10] at H
         have c10b0 : decide (x27_2 < (l0.length : Int)) = true := decide_eq_true c10
         clear c10
         by_cases c11 : x6_2.length + (rd_L6 l0 x27_2).length < 17592186044416
         ·rw [if_pos c11] at H
          have LMc11 := am c11; clear c11
          obtain ⟨y106, hy106⟩ : ∃ y_ : List Int, y_ = (x6_2 ++ (rd_L6 l0 x27_2)) := ⟨_, rfl⟩
          replace H : (slices_Concat_int_int.l1 k2 y106 l0 (l0.length : Int) (wrap64 (x27_2 + 1))) = some r := by first | (rw [hy106]; with_reducible exact H) | (have H2_ := (Option.bind_some _ _).symm.trans H; rw [hy106]; with_reducible exact H2_) | (have H2_ := (Option.bind_some _ _).symm.trans H; with_reducible exact H2_) | with_reducible exact H | (rw [hy106]; exact H) | exact H
          have Ny106 := am hy106; clear hy106
          have H' := am H
          clear H
          have p105 : 0 ≤ (x27_2 : Int) := of_decide_eq_true (by assumption)
          have q105 : x27_2 < (l0.length : Int) := of_decide_eq_true (by assumption)
          obtain ⟨ad105, A105_0, c105_0, e105, hx105_0, hl105_0, hi105_0⟩ := at_L6 HR0.out x27_2 p105 q105
          cases e105
          replace hx105_0 := (HB.out.cell (World.block_lt_of_cell? w _ hx105_0)).trans hx105_0
          have HR105_0 := am hi105_0; have HC105_0 := am hl105_0; clear hi105_0 hl105_0
          replace p105 := eq_true p105
          replace q105 := eq_true q105
          go_wp2_with (first | ((with_reducible refine gate_builtin (b := .append) (xs := #[.tmp 31, .tmp 32]) rfl ?_); at_builtin; refine Kd.R_append_rows (Kd.int .i64) (w0 := w) w.heap.size rfl (.tmp 31) (.tmp 32) 28 3 (.int .i64 0) 8 rfl Try.underlying28 info3 rfl (by decide) (by omega) u6 x6_2 (rd_L6 l0 x27_2) _ _ _ (fun _ => True) (fun _ => False) rfl rfl ?aO ?aR (fun _ _ h => h) (fun _ h => h.elim) ?aF ?aB ?aS ?aL ?_; (case aR => exact bD ((Kd.C_below HR105_0.out HB.out))); (case aB => exact (bB HB.out)); (case aF => exact (fun _ _ => trivial)); (case aO => exact (bC HO_6.out)); (case aS => exact (below_size (bB HB.out))); (case aL => have := LMc11.out; omega); intro v107 w12 ho hb hg hat; rw [← Ny106.out] at ho; have n0_ := am (hb); have n1_ := am (ho); clear HB; clear HO_6; have HB := n0_; have HO108 := n1_; clear n0_ n1_; clear ho hb hg hat))
          go_roundg k2
          case measure => have := HK1.out; have := HK2.out; omega
          case rel => exact ⟨(y106), (wrap64 (x27_2 + 1)), (by first | rfl | (simp; done) | (simp [*]; done)), H', ⟨by have := HK1.out; have := HK2.out; omega⟩, ⟨by (with_reducible repeat (first | apply Kd.R_alloc | apply Kd.R_drewN | apply Kd.R_drew)); exact HO108.out⟩, ⟨bB HB.out⟩⟩
         ·rw [if_neg c11] at H
          exact absurd H (by simp)
        ·rw [if_neg c10] at H
         exact absurd H (by simp)
       ·rw [if_neg c9] at H
        exact absurd H (by simp)
      ·rw [if_neg c8] at H
       have c8b0 : decide (x27_2 < (l0.length : Int)) = false := decide_eq_false c8
       clear c8
       obtain rfl := Option.some.inj H
       go_wp2
       go_ret
       exact ⟨_, by first | rfl | (simp [errW_none, errW_some] <;> rfl) | (simp [*, errW_none, errW_some] <;> rfl), by (with_reducible repeat (first | apply Kd.R_alloc | apply Kd.R_drewN | apply Kd.R_drew)); exact HO_6.out, bB HB.out⟩

end Go.Proofs.Ytaopbkbjfmfcdaa.P
