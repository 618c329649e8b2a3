/- What functions of the program come to, each with the proof that it does, laid by a program of this session out of the translation; no condition is set on any claim. -/
import Derived.Test.YtaopbkbjfmfcdaaZSgPSg0
import Derived.Test.YtaopbkbjfmfcdaaZSgPSg2
import Derived.Test.YtaopbkbjfmfcdaaZSgPSg3
import Derived.Test.YtaopbkbjfmfcdaaZSgPSg4
namespace Go.Proofs.Ytaopbkbjfmfcdaa.P
open Go.RowKit Go.Proofs.YtaopbkbjfmfcdaaW.PrintWords Go.Proofs.YtaopbkbjfmfcdaaW.PrintLast Go.Proofs.YtaopbkbjfmfcdaaW.PrintMore
attribute [local go_sem] max2_int min2_int max_two min_two max_three min_three max_four min_four   -- for this text's walks alone
set_option linter.unusedVariables false
set_option linter.unusedSimpArgs false

/-! ### spec_AdderCircuit: function 42 -/
def spec_AdderCircuit.l0 : Nat → Int → Int → Int → Int → List (S46) → List Int → Option (Int × (List (S46)) × List Int × Bool)
  | 0, _, _, _, _, _, _ => none
  | k + 1, x0, x5, x6, x104000, x104001, x104002 => if x6 < x0 then ((spec_TableOf.f k (⟨#[115, 117, 109]⟩ : ByteArray)).bind fun bt107 => ((spec_l6Gate.f x104000 x104001 x104002 bt107.1 bt107.2.1 bt107.2.2.1 bt107.2.2.2.1 bt107.2.2.2.2.1 bt107.2.2.2.2.2.1 bt107.2.2.2.2.2.2.1 bt107.2.2.2.2.2.2.2.1 bt107.2.2.2.2.2.2.2.2 (wrap64 (3 + (wrap64 (2 * x6)))) (wrap64 ((wrap64 (3 + (wrap64 (2 * x6)))) + 1))).bind fun bt116 => ((spec_TableOf.f k (⟨#[99, 97, 114, 114, 121]⟩ : ByteArray)).bind fun bt124 => ((spec_l6Gate.f bt116.1 bt116.2.1 bt116.2.2.1 bt124.1 bt124.2.1 bt124.2.2.1 bt124.2.2.2.1 bt124.2.2.2.2.1 bt124.2.2.2.2.2.1 bt124.2.2.2.2.2.2.1 bt124.2.2.2.2.2.2.2.1 bt124.2.2.2.2.2.2.2.2 (wrap64 (3 + (wrap64 (2 * x6)))) (wrap64 ((wrap64 (3 + (wrap64 (2 * x6)))) + 1))).bind fun bt133 => ((spec_TableOf.f k (⟨#[115, 117, 109]⟩ : ByteArray)).bind fun bt141 => ((spec_l6Gate.f bt133.1 bt133.2.1 bt133.2.2.1 bt141.1 bt141.2.1 bt141.2.2.1 bt141.2.2.2.1 bt141.2.2.2.2.1 bt141.2.2.2.2.2.1 bt141.2.2.2.2.2.2.1 bt141.2.2.2.2.2.2.2.1 bt141.2.2.2.2.2.2.2.2 bt116.2.2.2 x5).bind fun bt150 => ((spec_TableOf.f k (⟨#[99, 97, 114, 114, 121]⟩ : ByteArray)).bind fun bt158 => ((spec_l6Gate.f bt150.1 bt150.2.1 bt150.2.2.1 bt158.1 bt158.2.1 bt158.2.2.1 bt158.2.2.2.1 bt158.2.2.2.2.1 bt158.2.2.2.2.2.1 bt158.2.2.2.2.2.2.1 bt158.2.2.2.2.2.2.2.1 bt158.2.2.2.2.2.2.2.2 bt116.2.2.2 x5).bind fun bt167 => ((spec_TableOf.f k (⟨#[97, 110, 121]⟩ : ByteArray)).bind fun bt175 => ((spec_l6Gate.f bt167.1 bt167.2.1 bt167.2.2.1 bt175.1 bt175.2.1 bt175.2.2.1 bt175.2.2.2.1 bt175.2.2.2.2.1 bt175.2.2.2.2.2.1 bt175.2.2.2.2.2.2.1 bt175.2.2.2.2.2.2.2.1 bt175.2.2.2.2.2.2.2.2 bt133.2.2.2 bt167.2.2.2).bind fun bt184 => (if bt184.2.2.1.length < 17592186044416 then (spec_AdderCircuit.l0 k x0 bt184.2.2.2 (wrap64 (x6 + 1)) bt184.1 bt184.2.1 (bt184.2.2.1 ++ [bt150.2.2.2])) else (none)))))))))))) else (if x104002.length < 17592186044416 then (some (x104000, x104001, (x104002 ++ [x5]), true)) else (none))
def spec_AdderCircuit.f (k : Nat) (a0 : Int) : Option (Int × (List (S46)) × List Int × Bool) := (spec_l1In.f a0 1 4).bind fun t102 => (if t102 = true then (spec_AdderCircuit.l0 k a0 1 0 (wrap64 (2 * a0)) ([] : List (S46)) ([] : List Int)) else (some (0, ([] : List (S46)), ([] : List Int), false)))
theorem spec_AdderCircuit.mono_l : ∀ k, (∀ y0 y1 y2 y3 y4 y5, LeO (spec_AdderCircuit.l0 k y0 y1 y2 y3 y4 y5) (spec_AdderCircuit.l0 (k + 1) y0 y1 y2 y3 y4 y5))
  | 0 => fun _ _ _ _ _ _ r h => by simp [spec_AdderCircuit.l0] at h
  | k + 1 => by
    have ih0 := spec_AdderCircuit.mono_l k
    · intro y0 y1 y2 y3 y4 y5
      unfold spec_AdderCircuit.l0
      repeat' first
      | (with_reducible exact ih0 _ _ _ _ _ _)
      | (with_reducible exact spec_TableOf.mono _ _)
      | (with_reducible exact LeO.refl _)
      | (with_reducible exact LeO.none _)
      | (with_reducible refine LeO.ite ?_ ?_)
      | (with_reducible refine LeO.bind ?_ (fun _ => ?_))
      | exact ih0 _ _ _ _ _ _
      | exact spec_TableOf.mono _ _
      | exact LeO.none _
      | refine LeO.ite ?_ ?_
      | refine LeO.bind ?_ (fun _ => ?_)
theorem spec_AdderCircuit.mono : ∀ a0 k, LeO (spec_AdderCircuit.f k a0) (spec_AdderCircuit.f (k + 1) a0) := by
  intro a0 k
  have ih0 := spec_AdderCircuit.mono_l k
  unfold spec_AdderCircuit.f
  repeat' first
      | (with_reducible exact ih0 _ _ _ _ _ _)
      | (with_reducible exact spec_TableOf.mono _ _)
      | (with_reducible exact LeO.refl _)
      | (with_reducible exact LeO.none _)
      | (with_reducible refine LeO.ite ?_ ?_)
      | (with_reducible refine LeO.bind ?_ (fun _ => ?_))
      | exact ih0 _ _ _ _ _ _
      | exact spec_TableOf.mono _ _
      | exact LeO.none _
      | refine LeO.ite ?_ ?_
      | refine LeO.bind ?_ (fun _ => ?_)
def spec_AdderCircuit.T10 : Bool × List (List Nat × List Nat) := (true, [([], []), ([], []), ([], []), ([], []), ([3], [3]), ([0, 1, 2, 4, 1], [0, 1, 2, 4]), ([5], [5]), ([6], [6]), ([6], [6]), ([7, 5, 0, 1, 2, 3, 4, 5, 6, 7], [7]), ([8, 9, 0, 1, 2, 3, 4, 5, 6, 7, 8, 9], [8])])
def spec_AdderCircuit.B10 : List Nat := [0, 0, 0, 0, 8, 31, 63, 127, 127, 255, 1023]
theorem spec_AdderCircuit.tab10 : rtab .any (opsOf Try.f42 10) = spec_AdderCircuit.T10 := by kernel_rfl
theorem spec_AdderCircuit.bits10 : waitsOk spec_AdderCircuit.T10.2 spec_AdderCircuit.B10 = true := by kernel_rfl
def spec_AdderCircuit.T11 : Bool × List (List Nat × List Nat) := (true, [([], []), ([], []), ([], []), ([], []), ([3], [3]), ([0, 1, 2, 4, 1], [0, 1, 2, 4]), ([5], [5]), ([6], [6]), ([6], [6]), ([7, 5, 0, 1, 2, 3, 4, 5, 6, 7], [7]), ([8, 9, 0, 1, 2, 3, 4, 5, 6, 7, 8, 9], [8])])
def spec_AdderCircuit.B11 : List Nat := [0, 0, 0, 0, 8, 31, 63, 127, 127, 255, 1023]
theorem spec_AdderCircuit.tab11 : rtab .any (opsOf Try.f42 11) = spec_AdderCircuit.T11 := by kernel_rfl
theorem spec_AdderCircuit.bits11 : waitsOk spec_AdderCircuit.T11.2 spec_AdderCircuit.B11 = true := by kernel_rfl
def spec_AdderCircuit.T12 : Bool × List (List Nat × List Nat) := (true, [([], []), ([], []), ([], []), ([], []), ([0, 1, 2, 3, 1], [0, 1, 2, 3]), ([4], [4]), ([5], [5]), ([5], [5]), ([6, 4, 0, 1, 2, 3, 4, 5, 6], [6]), ([7, 8, 0, 1, 2, 3, 4, 5, 6, 7, 8], [7])])
def spec_AdderCircuit.B12 : List Nat := [0, 0, 0, 0, 15, 31, 63, 63, 127, 511]
theorem spec_AdderCircuit.tab12 : rtab .any (opsOf Try.f42 12) = spec_AdderCircuit.T12 := by kernel_rfl
theorem spec_AdderCircuit.bits12 : waitsOk spec_AdderCircuit.T12.2 spec_AdderCircuit.B12 = true := by kernel_rfl
def spec_AdderCircuit.T13 : Bool × List (List Nat × List Nat) := (true, [([], []), ([], []), ([], []), ([], []), ([0, 1, 2, 3, 1], [0, 1, 2, 3]), ([4], [4]), ([5], [5]), ([5], [5]), ([6, 4, 0, 1, 2, 3, 4, 5, 6], [6]), ([7, 8, 0, 1, 2, 3, 4, 5, 6, 7, 8], [7])])
def spec_AdderCircuit.B13 : List Nat := [0, 0, 0, 0, 15, 31, 63, 63, 127, 511]
theorem spec_AdderCircuit.tab13 : rtab .any (opsOf Try.f42 13) = spec_AdderCircuit.T13 := by kernel_rfl
theorem spec_AdderCircuit.bits13 : waitsOk spec_AdderCircuit.T13.2 spec_AdderCircuit.B13 = true := by kernel_rfl
def spec_AdderCircuit.T14 : Bool × List (List Nat × List Nat) := (true, [([], []), ([], []), ([], []), ([], []), ([0, 1, 2, 3, 1], [0, 1, 2, 3]), ([4], [4]), ([5], [5]), ([5], [5]), ([6, 4, 0, 1, 2, 3, 4, 5, 6], [6]), ([7, 8, 0, 1, 2, 3, 4, 5, 6, 7, 8], [7])])
def spec_AdderCircuit.B14 : List Nat := [0, 0, 0, 0, 15, 31, 63, 63, 127, 511]
theorem spec_AdderCircuit.tab14 : rtab .any (opsOf Try.f42 14) = spec_AdderCircuit.T14 := by kernel_rfl
theorem spec_AdderCircuit.bits14 : waitsOk spec_AdderCircuit.T14.2 spec_AdderCircuit.B14 = true := by kernel_rfl
set_option maxHeartbeats 8000000 in
set_option maxRecDepth 100000 in
theorem spec_AdderCircuit.calls (k : Nat) (a0 : Int) (r1 : Int) (r2 : List (S46)) (r3 : List Int) (r4 : Bool) (w : World) (h : spec_AdderCircuit.f k a0 = some (r1, r2, r3, r4)) :
    Calls Try.prog 42 #[.int .i64 a0] w fun e w' => ∃ v1_ v2_ : Value, e = .returned (.tuple #[.agg #[.int .i64 r1, v1_, v2_], .bool r4]) ∧ Kd.R k46 46 w' w.heap.size (fun _ => True) v1_ r2 ∧ Kd.R (Kd.int .i64) 3 w' w.heap.size (fun _ => True) v2_ r3 ∧ Below w.heap.size w w' := by
  have hu35 := Try.underlying35
  have HB := Aside0.mk (Below.refl w.heap.size w)
  have H : ((spec_l1In.f a0 1 4).bind fun t102 => (if t102 = true then (spec_AdderCircuit.l0 k a0 1 0 (wrap64 (2 * a0)) ([] : List (S46)) ([] : List Int)) else (some (0, ([] : List (S46)), ([] : List Int), false)))) = some (r1, r2, r3, r4) := h
  clear h
  replace H := Option.bind_eq_some_iff.mp H
  obtain ⟨t102, A20, H⟩ := H
  replace H : (if t102 = true then (spec_AdderCircuit.l0 k a0 1 0 (wrap64 (2 * a0)) ([] : List (S46)) ([] : List Int)) else (some (0, ([] : List (S46)), ([] : List Int), false))) = some (r1, r2, r3, r4) := H
  have A2 := Aside0.mk A20
  clear A20
  by_cases c3 : t102 = true
  · subst c3
    have H1 : (spec_AdderCircuit.l0 k a0 1 0 (wrap64 (2 * a0)) ([] : List (S46)) ([] : List Int)) = some (r1, r2, r3, r4) := by rw [if_pos rfl] at H; exact H
    clear H
    have H := H1
    clear H1
    have H' := Aside0.mk H
    clear H
    go_enter Try.func42, Try.ntmps42
    go_wp2_with (first | ((with_reducible refine gate_dst (N := 2) rfl ?_); refine box_event ?hg (N := 2) ?hd (cs := #[.int .i64 0, .slice none 0 0, .slice none 0 0]) (t := 35) ?hr ?_; (case hd => rfl); (case hg => rfl); (case hr => first | (go_simp; done) | (go_simp; rfl)); intro gb101 hg w4 hbox hb; have n0_ := Aside0.mk (below_step (by repeat (first | (with_reducible first | exact HB.out | apply below_alloc | apply pw_below_drewN | apply below_drew1) | exact HB.out)) hb); have n1_ := Aside0.mk (hbox); have n2_ := Aside0.mk ((by rw [hg]; exact (below_size (by repeat (first | (with_reducible first | exact HB.out | apply below_alloc | apply pw_below_drewN | apply below_drew1) | exact HB.out))) : w.heap.size ≤ gb101)); have n3_ := Aside0.mk ((by rw [hg]; exact (below_size (by repeat (first | (with_reducible first | exact HB.out | apply below_alloc | apply pw_below_drewN | apply below_drew1) | exact HB.out))) : w.heap.size ≤ gb101)); clear HB; have HB := n0_; have BK101 := n1_; have GW101 := n2_; have GE101 := n3_; clear n0_ n1_ n2_ n3_; clear hb hbox hg) | ((with_reducible refine gate_callee (f := 55) rfl ?_); refine goesL_ (some 13) rfl rfl Try.func55 (by kernel_rfl) rfl #[.int .i64 a0, .int .i64 1, .int .i64 4] rfl (by (try simp only [List.map_toArray, List.map_cons, List.map_nil]); first | done | rfl | (simp only [List.length_drop, List.length_take]; rfl)) ?_; (with_reducible refine (spec_l1In.calls a0 1 4 true _ A2.out).mono ?_); rintro e w' ⟨rfl, ⟨nd, rfl⟩⟩; refine ⟨_, rfl, ?_⟩; (try (rw [drewN_self w4]; generalize hq_ : World.drewN w4 _ = w4; have n0_ : Aside0 (w4.heap[gb101]? = some (.cells #[.int .i64 0, .slice none 0 0, .slice none 0 0] 35 (0, 0))) := ⟨by rw [← hq_]; exact (by (with_reducible repeat (first | refine blk_drewN ?_ _ | refine blk_drew ?_ | refine blk_alloc ?_ _)); exact BK101.out)⟩; have n1_ : Aside0 (Below w.heap.size w w4) := ⟨by rw [← hq_]; exact (by repeat (first | (with_reducible first | exact HB.out | apply below_alloc | apply pw_below_drewN | apply below_drew1 | refine below_set ?_ GE101.out) | exact HB.out))⟩; clear BK101 HB hq_; have BK101 := n0_; have HB := n1_; clear n0_ n1_))) | ((with_reducible refine gate_dst (N := 4) rfl ?_); refine box_event ?hg (N := 4) ?hd (cs := #[.int .i64 0, .slice none 0 0, .slice none 0 0]) (t := 35) ?hr ?_; (case hd => rfl); (case hg => rfl); (case hr => first | (go_simp; done) | (go_simp; rfl)); intro gb103 hg w5 hbox hb; have n0_ := Aside0.mk (blk_below (g := gb101) (o := .cells #[.int .i64 0, .slice none 0 0, .slice none 0 0] 35 (0, 0)) (by (with_reducible repeat (first | refine blk_drewN ?_ _ | refine blk_drew ?_ | refine blk_alloc ?_ _)); exact BK101.out) hb); have n1_ := Aside0.mk (below_step (by repeat (first | (with_reducible first | exact HB.out | apply below_alloc | apply pw_below_drewN | apply below_drew1 | refine below_set ?_ GE101.out) | exact HB.out)) hb); have n2_ := Aside0.mk (hbox); have n3_ := Aside0.mk ((by rw [hg]; exact (below_size (by repeat (first | (with_reducible first | exact HB.out | apply below_alloc | apply pw_below_drewN | apply below_drew1 | refine below_set ?_ GE101.out) | exact HB.out))) : w.heap.size ≤ gb103)); have n4_ := Aside0.mk ((by rw [hg]; exact (below_size (by repeat (first | (with_reducible first | exact HB.out | apply below_alloc | apply pw_below_drewN | apply below_drew1 | refine below_set ?_ GE101.out) | exact HB.out))) : w.heap.size ≤ gb103)); have n5_ := Aside0.mk ((by rw [hg]; exact Nat.ne_of_lt (blk_lt (g := gb101) (o := .cells #[.int .i64 0, .slice none 0 0, .slice none 0 0] 35 (0, 0)) (by (with_reducible repeat (first | refine blk_drewN ?_ _ | refine blk_drew ?_ | refine blk_alloc ?_ _)); exact BK101.out)) : gb101 ≠ gb103)); have n6_ := Aside0.mk ((by rw [hg]; exact Nat.ne_of_gt (blk_lt (g := gb101) (o := .cells #[.int .i64 0, .slice none 0 0, .slice none 0 0] 35 (0, 0)) (by (with_reducible repeat (first | refine blk_drewN ?_ _ | refine blk_drew ?_ | refine blk_alloc ?_ _)); exact BK101.out)) : gb103 ≠ gb101)); clear BK101; clear HB; have BK101 := n0_; have HB := n1_; have BK103 := n2_; have GW103 := n3_; have GE103 := n4_; have NB101_103 := n5_; have NB103_101 := n6_; clear n0_ n1_ n2_ n3_ n4_ n5_ n6_; clear hb hbox hg; have hnb6 := NB103_101.out; have hnc6 := NB101_103.out; have hcz7_0 : w5.cell? ⟨gb103, 0, none⟩ = some (.int .i64 0) := (blk_cell BK103.out 0).trans rfl; have hcz7_1 : w5.cell? ⟨gb103, 1, none⟩ = some (.slice none 0 0) := (blk_cell BK103.out 1).trans rfl; have hcz7_2 : w5.cell? ⟨gb103, 2, none⟩ = some (.slice none 0 0) := (blk_cell BK103.out 2).trans rfl; have hfz7_0 := blk_frozen BK103.out 0; have hfz7_1 := blk_frozen BK103.out 1; have hfz7_2 := blk_frozen BK103.out 2))
    go_loopg [5, 6] k (fun kq v5 v6 w' => ∃ (x5_1 : Int) (x6_1 : Int) (x104000_1 : Int) (x104001_1 : List (S46)) (x104002_1 : List Int) (u104001 : Value) (u104002 : Value), v5 = .int .i64 x5_1 ∧ v6 = .int .i64 x6_1 ∧ Aside0 (spec_AdderCircuit.l0 kq a0 x5_1 x6_1 x104000_1 x104001_1 x104002_1 = some (r1, r2, r3, r4)) ∧ Aside0 (kq ≤ k) ∧ Aside0 (Kd.R k46 46 w' w.heap.size (fun _ => True) u104001 x104001_1) ∧ Aside0 (Kd.R (Kd.int .i64) 3 w' w.heap.size (fun _ => True) u104002 x104002_1) ∧ Aside0 (w'.heap[gb101]? = some (.cells #[.int .i64 0, (.slice none 0 0), (.slice none 0 0)] 35 (0, 0))) ∧ Aside0 (w'.heap[gb103]? = some (.cells #[.int .i64 x104000_1, u104001, u104002] 35 (0, 0))) ∧ Aside0 (Below w.heap.size w w'))
    case atStart => exact ⟨(1), (0), (wrap64 (2 * a0)), (([] : List (S46))), (([] : List Int)), (.slice none 0 0), (.slice none 0 0), (by first | rfl | (simp; done) | (simp [*]; done)), (by first | rfl | (simp; done) | (simp [*]; done)), H', ⟨Nat.le_refl _⟩, ⟨by first | exact Kd.R_nil _ _ _ _ _ | exact Kd.N_nil _ _ _ _ _ | exact Kd.V_nil _ _ _ _ _ | exact Kd.Q_nil _ _ _ _ _ | exact Kd.S_nil _ _ _ _ _⟩, ⟨by first | exact Kd.R_nil _ _ _ _ _ | exact Kd.N_nil _ _ _ _ _ | exact Kd.V_nil _ _ _ _ _ | exact Kd.Q_nil _ _ _ _ _ | exact Kd.S_nil _ _ _ _ _⟩, ⟨by (with_reducible repeat (first | refine blk_drewN ?_ _ | refine blk_drew ?_ | refine blk_alloc ?_ _)); refine blk_far ?_ NB101_103.out _; (with_reducible repeat (first | refine blk_drewN ?_ _ | refine blk_drew ?_ | refine blk_alloc ?_ _)); refine blk_far ?_ NB101_103.out _; (with_reducible repeat (first | refine blk_drewN ?_ _ | refine blk_drew ?_ | refine blk_alloc ?_ _)); refine blk_far ?_ NB101_103.out _; (with_reducible repeat (first | refine blk_drewN ?_ _ | refine blk_drew ?_ | refine blk_alloc ?_ _)); exact BK101.out⟩, ⟨by (with_reducible repeat (first | refine blk_drewN ?_ _ | refine blk_drew ?_ | refine blk_alloc ?_ _)); refine blk_put (cs := #[.int .i64 (wrap64 (2 * a0)), .slice none 0 0, .slice none 0 0]) ?_ 2 _ rfl; (with_reducible repeat (first | refine blk_drewN ?_ _ | refine blk_drew ?_ | refine blk_alloc ?_ _)); refine blk_put (cs := #[.int .i64 (wrap64 (2 * a0)), .slice none 0 0, .slice none 0 0]) ?_ 1 _ rfl; (with_reducible repeat (first | refine blk_drewN ?_ _ | refine blk_drew ?_ | refine blk_alloc ?_ _)); refine blk_put (cs := #[.int .i64 0, .slice none 0 0, .slice none 0 0]) ?_ 0 _ rfl; (with_reducible repeat (first | refine blk_drewN ?_ _ | refine blk_drew ?_ | refine blk_alloc ?_ _)); exact BK103.out⟩, ⟨by repeat (first | (with_reducible first | exact HB.out | apply below_alloc | apply pw_below_drewN | apply below_drew1 | refine below_set ?_ GE101.out | refine below_set ?_ GE103.out) | exact HB.out)⟩⟩
    case round =>
      clear H'
      try clear p2
      try clear c3
      try clear c4
      try clear c5
      try clear c6
      try clear p6
      try clear hcz7_0
      try clear hcz7_1
      try clear hcz7_2
      try clear hfz7_0
      try clear hfz7_1
      try clear hfz7_2
      obtain ⟨x5_1, x6_1, x104000_1, x104001_1, x104002_1, u104001, u104002, rfl, rfl, HA, HK1, HO_104001, HO_104002, BK101, BK103, HB⟩ := hrel
      cases gk with
      | zero => exact absurd HA.out (by simp [spec_AdderCircuit.l0])
      | succ k1 =>
        have H := HA.out
        clear HA
        simp only [spec_AdderCircuit.l0] at H
        by_cases c8 : x6_1 < a0
        · rw [if_pos c8] at H
          have c8b0 : decide (x6_1 < a0) = true := decide_eq_true c8
          clear c8
          replace H := Option.bind_eq_some_iff.mp H
          obtain ⟨⟨t107, t108, t109, t110, t111, t112, t113, t114, t115⟩, A90, H⟩ := H
          replace H : ((spec_l6Gate.f x104000_1 x104001_1 x104002_1 t107 t108 t109 t110 t111 t112 t113 t114 t115 (wrap64 (3 + (wrap64 (2 * x6_1)))) (wrap64 ((wrap64 (3 + (wrap64 (2 * x6_1)))) + 1))).bind fun bt116 => ((spec_TableOf.f k1 (⟨#[99, 97, 114, 114, 121]⟩ : ByteArray)).bind fun bt124 => ((spec_l6Gate.f bt116.1 bt116.2.1 bt116.2.2.1 bt124.1 bt124.2.1 bt124.2.2.1 bt124.2.2.2.1 bt124.2.2.2.2.1 bt124.2.2.2.2.2.1 bt124.2.2.2.2.2.2.1 bt124.2.2.2.2.2.2.2.1 bt124.2.2.2.2.2.2.2.2 (wrap64 (3 + (wrap64 (2 * x6_1)))) (wrap64 ((wrap64 (3 + (wrap64 (2 * x6_1)))) + 1))).bind fun bt133 => ((spec_TableOf.f k1 (⟨#[115, 117, 109]⟩ : ByteArray)).bind fun bt141 => ((spec_l6Gate.f bt133.1 bt133.2.1 bt133.2.2.1 bt141.1 bt141.2.1 bt141.2.2.1 bt141.2.2.2.1 bt141.2.2.2.2.1 bt141.2.2.2.2.2.1 bt141.2.2.2.2.2.2.1 bt141.2.2.2.2.2.2.2.1 bt141.2.2.2.2.2.2.2.2 bt116.2.2.2 x5_1).bind fun bt150 => ((spec_TableOf.f k1 (⟨#[99, 97, 114, 114, 121]⟩ : ByteArray)).bind fun bt158 => ((spec_l6Gate.f bt150.1 bt150.2.1 bt150.2.2.1 bt158.1 bt158.2.1 bt158.2.2.1 bt158.2.2.2.1 bt158.2.2.2.2.1 bt158.2.2.2.2.2.1 bt158.2.2.2.2.2.2.1 bt158.2.2.2.2.2.2.2.1 bt158.2.2.2.2.2.2.2.2 bt116.2.2.2 x5_1).bind fun bt167 => ((spec_TableOf.f k1 (⟨#[97, 110, 121]⟩ : ByteArray)).bind fun bt175 => ((spec_l6Gate.f bt167.1 bt167.2.1 bt167.2.2.1 bt175.1 bt175.2.1 bt175.2.2.1 bt175.2.2.2.1 bt175.2.2.2.2.1 bt175.2.2.2.2.2.1 bt175.2.2.2.2.2.2.1 bt175.2.2.2.2.2.2.2.1 bt175.2.2.2.2.2.2.2.2 bt133.2.2.2 bt167.2.2.2).bind fun bt184 => (if bt184.2.2.1.length < 17592186044416 then (spec_AdderCircuit.l0 k1 a0 bt184.2.2.2 (wrap64 (x6_1 + 1)) bt184.1 bt184.2.1 (bt184.2.2.1 ++ [bt150.2.2.2])) else (none))))))))))) = some (r1, r2, r3, r4) := H
          have A9 := Aside0.mk A90
          clear A90
          replace H := Option.bind_eq_some_iff.mp H
          obtain ⟨⟨t116, t117, t120, t123⟩, A100, H⟩ := H
          replace H : ((spec_TableOf.f k1 (⟨#[99, 97, 114, 114, 121]⟩ : ByteArray)).bind fun bt124 => ((spec_l6Gate.f t116 t117 t120 bt124.1 bt124.2.1 bt124.2.2.1 bt124.2.2.2.1 bt124.2.2.2.2.1 bt124.2.2.2.2.2.1 bt124.2.2.2.2.2.2.1 bt124.2.2.2.2.2.2.2.1 bt124.2.2.2.2.2.2.2.2 (wrap64 (3 + (wrap64 (2 * x6_1)))) (wrap64 ((wrap64 (3 + (wrap64 (2 * x6_1)))) + 1))).bind fun bt133 => ((spec_TableOf.f k1 (⟨#[115, 117, 109]⟩ : ByteArray)).bind fun bt141 => ((spec_l6Gate.f bt133.1 bt133.2.1 bt133.2.2.1 bt141.1 bt141.2.1 bt141.2.2.1 bt141.2.2.2.1 bt141.2.2.2.2.1 bt141.2.2.2.2.2.1 bt141.2.2.2.2.2.2.1 bt141.2.2.2.2.2.2.2.1 bt141.2.2.2.2.2.2.2.2 t123 x5_1).bind fun bt150 => ((spec_TableOf.f k1 (⟨#[99, 97, 114, 114, 121]⟩ : ByteArray)).bind fun bt158 => ((spec_l6Gate.f bt150.1 bt150.2.1 bt150.2.2.1 bt158.1 bt158.2.1 bt158.2.2.1 bt158.2.2.2.1 bt158.2.2.2.2.1 bt158.2.2.2.2.2.1 bt158.2.2.2.2.2.2.1 bt158.2.2.2.2.2.2.2.1 bt158.2.2.2.2.2.2.2.2 t123 x5_1).bind fun bt167 => ((spec_TableOf.f k1 (⟨#[97, 110, 121]⟩ : ByteArray)).bind fun bt175 => ((spec_l6Gate.f bt167.1 bt167.2.1 bt167.2.2.1 bt175.1 bt175.2.1 bt175.2.2.1 bt175.2.2.2.1 bt175.2.2.2.2.1 bt175.2.2.2.2.2.1 bt175.2.2.2.2.2.2.1 bt175.2.2.2.2.2.2.2.1 bt175.2.2.2.2.2.2.2.2 bt133.2.2.2 bt167.2.2.2).bind fun bt184 => (if bt184.2.2.1.length < 17592186044416 then (spec_AdderCircuit.l0 k1 a0 bt184.2.2.2 (wrap64 (x6_1 + 1)) bt184.1 bt184.2.1 (bt184.2.2.1 ++ [bt150.2.2.2])) else (none)))))))))) = some (r1, r2, r3, r4) := H
          have A10 := Aside0.mk A100
          clear A100
          replace H := Option.bind_eq_some_iff.mp H
          obtain ⟨⟨t124, t125, t126, t127, t128, t129, t130, t131, t132⟩, A110, H⟩ := H
          replace H : ((spec_l6Gate.f t116 t117 t120 t124 t125 t126 t127 t128 t129 t130 t131 t132 (wrap64 (3 + (wrap64 (2 * x6_1)))) (wrap64 ((wrap64 (3 + (wrap64 (2 * x6_1)))) + 1))).bind fun bt133 => ((spec_TableOf.f k1 (⟨#[115, 117, 109]⟩ : ByteArray)).bind fun bt141 => ((spec_l6Gate.f bt133.1 bt133.2.1 bt133.2.2.1 bt141.1 bt141.2.1 bt141.2.2.1 bt141.2.2.2.1 bt141.2.2.2.2.1 bt141.2.2.2.2.2.1 bt141.2.2.2.2.2.2.1 bt141.2.2.2.2.2.2.2.1 bt141.2.2.2.2.2.2.2.2 t123 x5_1).bind fun bt150 => ((spec_TableOf.f k1 (⟨#[99, 97, 114, 114, 121]⟩ : ByteArray)).bind fun bt158 => ((spec_l6Gate.f bt150.1 bt150.2.1 bt150.2.2.1 bt158.1 bt158.2.1 bt158.2.2.1 bt158.2.2.2.1 bt158.2.2.2.2.1 bt158.2.2.2.2.2.1 bt158.2.2.2.2.2.2.1 bt158.2.2.2.2.2.2.2.1 bt158.2.2.2.2.2.2.2.2 t123 x5_1).bind fun bt167 => ((spec_TableOf.f k1 (⟨#[97, 110, 121]⟩ : ByteArray)).bind fun bt175 => ((spec_l6Gate.f bt167.1 bt167.2.1 bt167.2.2.1 bt175.1 bt175.2.1 bt175.2.2.1 bt175.2.2.2.1 bt175.2.2.2.2.1 bt175.2.2.2.2.2.1 bt175.2.2.2.2.2.2.1 bt175.2.2.2.2.2.2.2.1 bt175.2.2.2.2.2.2.2.2 bt133.2.2.2 bt167.2.2.2).bind fun bt184 => (if bt184.2.2.1.length < 17592186044416 then (spec_AdderCircuit.l0 k1 a0 bt184.2.2.2 (wrap64 (x6_1 + 1)) bt184.1 bt184.2.1 (bt184.2.2.1 ++ [bt150.2.2.2])) else (none))))))))) = some (r1, r2, r3, r4) := H
          have A11 := Aside0.mk A110
          clear A110
          replace H := Option.bind_eq_some_iff.mp H
          obtain ⟨⟨t133, t134, t137, t140⟩, A120, H⟩ := H
          replace H : ((spec_TableOf.f k1 (⟨#[115, 117, 109]⟩ : ByteArray)).bind fun bt141 => ((spec_l6Gate.f t133 t134 t137 bt141.1 bt141.2.1 bt141.2.2.1 bt141.2.2.2.1 bt141.2.2.2.2.1 bt141.2.2.2.2.2.1 bt141.2.2.2.2.2.2.1 bt141.2.2.2.2.2.2.2.1 bt141.2.2.2.2.2.2.2.2 t123 x5_1).bind fun bt150 => ((spec_TableOf.f k1 (⟨#[99, 97, 114, 114, 121]⟩ : ByteArray)).bind fun bt158 => ((spec_l6Gate.f bt150.1 bt150.2.1 bt150.2.2.1 bt158.1 bt158.2.1 bt158.2.2.1 bt158.2.2.2.1 bt158.2.2.2.2.1 bt158.2.2.2.2.2.1 bt158.2.2.2.2.2.2.1 bt158.2.2.2.2.2.2.2.1 bt158.2.2.2.2.2.2.2.2 t123 x5_1).bind fun bt167 => ((spec_TableOf.f k1 (⟨#[97, 110, 121]⟩ : ByteArray)).bind fun bt175 => ((spec_l6Gate.f bt167.1 bt167.2.1 bt167.2.2.1 bt175.1 bt175.2.1 bt175.2.2.1 bt175.2.2.2.1 bt175.2.2.2.2.1 bt175.2.2.2.2.2.1 bt175.2.2.2.2.2.2.1 bt175.2.2.2.2.2.2.2.1 bt175.2.2.2.2.2.2.2.2 t140 bt167.2.2.2).bind fun bt184 => (if bt184.2.2.1.length < 17592186044416 then (spec_AdderCircuit.l0 k1 a0 bt184.2.2.2 (wrap64 (x6_1 + 1)) bt184.1 bt184.2.1 (bt184.2.2.1 ++ [bt150.2.2.2])) else (none)))))))) = some (r1, r2, r3, r4) := H
          have A12 := Aside0.mk A120
          clear A120
          replace H := Option.bind_eq_some_iff.mp H
          obtain ⟨⟨t141, t142, t143, t144, t145, t146, t147, t148, t149⟩, A130, H⟩ := H
          replace H : ((spec_l6Gate.f t133 t134 t137 t141 t142 t143 t144 t145 t146 t147 t148 t149 t123 x5_1).bind fun bt150 => ((spec_TableOf.f k1 (⟨#[99, 97, 114, 114, 121]⟩ : ByteArray)).bind fun bt158 => ((spec_l6Gate.f bt150.1 bt150.2.1 bt150.2.2.1 bt158.1 bt158.2.1 bt158.2.2.1 bt158.2.2.2.1 bt158.2.2.2.2.1 bt158.2.2.2.2.2.1 bt158.2.2.2.2.2.2.1 bt158.2.2.2.2.2.2.2.1 bt158.2.2.2.2.2.2.2.2 t123 x5_1).bind fun bt167 => ((spec_TableOf.f k1 (⟨#[97, 110, 121]⟩ : ByteArray)).bind fun bt175 => ((spec_l6Gate.f bt167.1 bt167.2.1 bt167.2.2.1 bt175.1 bt175.2.1 bt175.2.2.1 bt175.2.2.2.1 bt175.2.2.2.2.1 bt175.2.2.2.2.2.1 bt175.2.2.2.2.2.2.1 bt175.2.2.2.2.2.2.2.1 bt175.2.2.2.2.2.2.2.2 t140 bt167.2.2.2).bind fun bt184 => (if bt184.2.2.1.length < 17592186044416 then (spec_AdderCircuit.l0 k1 a0 bt184.2.2.2 (wrap64 (x6_1 + 1)) bt184.1 bt184.2.1 (bt184.2.2.1 ++ [bt150.2.2.2])) else (none))))))) = some (r1, r2, r3, r4) := H
          have A13 := Aside0.mk A130
          clear A130
          replace H := Option.bind_eq_some_iff.mp H
          obtain ⟨⟨t150, t151, t154, t157⟩, A140, H⟩ := H
          replace H : ((spec_TableOf.f k1 (⟨#[99, 97, 114, 114, 121]⟩ : ByteArray)).bind fun bt158 => ((spec_l6Gate.f t150 t151 t154 bt158.1 bt158.2.1 bt158.2.2.1 bt158.2.2.2.1 bt158.2.2.2.2.1 bt158.2.2.2.2.2.1 bt158.2.2.2.2.2.2.1 bt158.2.2.2.2.2.2.2.1 bt158.2.2.2.2.2.2.2.2 t123 x5_1).bind fun bt167 => ((spec_TableOf.f k1 (⟨#[97, 110, 121]⟩ : ByteArray)).bind fun bt175 => ((spec_l6Gate.f bt167.1 bt167.2.1 bt167.2.2.1 bt175.1 bt175.2.1 bt175.2.2.1 bt175.2.2.2.1 bt175.2.2.2.2.1 bt175.2.2.2.2.2.1 bt175.2.2.2.2.2.2.1 bt175.2.2.2.2.2.2.2.1 bt175.2.2.2.2.2.2.2.2 t140 bt167.2.2.2).bind fun bt184 => (if bt184.2.2.1.length < 17592186044416 then (spec_AdderCircuit.l0 k1 a0 bt184.2.2.2 (wrap64 (x6_1 + 1)) bt184.1 bt184.2.1 (bt184.2.2.1 ++ [t157])) else (none)))))) = some (r1, r2, r3, r4) := H
          have A14 := Aside0.mk A140
          clear A140
          replace H := Option.bind_eq_some_iff.mp H
          obtain ⟨⟨t158, t159, t160, t161, t162, t163, t164, t165, t166⟩, A150, H⟩ := H
          replace H : ((spec_l6Gate.f t150 t151 t154 t158 t159 t160 t161 t162 t163 t164 t165 t166 t123 x5_1).bind fun bt167 => ((spec_TableOf.f k1 (⟨#[97, 110, 121]⟩ : ByteArray)).bind fun bt175 => ((spec_l6Gate.f bt167.1 bt167.2.1 bt167.2.2.1 bt175.1 bt175.2.1 bt175.2.2.1 bt175.2.2.2.1 bt175.2.2.2.2.1 bt175.2.2.2.2.2.1 bt175.2.2.2.2.2.2.1 bt175.2.2.2.2.2.2.2.1 bt175.2.2.2.2.2.2.2.2 t140 bt167.2.2.2).bind fun bt184 => (if bt184.2.2.1.length < 17592186044416 then (spec_AdderCircuit.l0 k1 a0 bt184.2.2.2 (wrap64 (x6_1 + 1)) bt184.1 bt184.2.1 (bt184.2.2.1 ++ [t157])) else (none))))) = some (r1, r2, r3, r4) := H
          have A15 := Aside0.mk A150
          clear A150
          replace H := Option.bind_eq_some_iff.mp H
          obtain ⟨⟨t167, t168, t171, t174⟩, A160, H⟩ := H
          replace H : ((spec_TableOf.f k1 (⟨#[97, 110, 121]⟩ : ByteArray)).bind fun bt175 => ((spec_l6Gate.f t167 t168 t171 bt175.1 bt175.2.1 bt175.2.2.1 bt175.2.2.2.1 bt175.2.2.2.2.1 bt175.2.2.2.2.2.1 bt175.2.2.2.2.2.2.1 bt175.2.2.2.2.2.2.2.1 bt175.2.2.2.2.2.2.2.2 t140 t174).bind fun bt184 => (if bt184.2.2.1.length < 17592186044416 then (spec_AdderCircuit.l0 k1 a0 bt184.2.2.2 (wrap64 (x6_1 + 1)) bt184.1 bt184.2.1 (bt184.2.2.1 ++ [t157])) else (none)))) = some (r1, r2, r3, r4) := H
          have A16 := Aside0.mk A160
          clear A160
          replace H := Option.bind_eq_some_iff.mp H
          obtain ⟨⟨t175, t176, t177, t178, t179, t180, t181, t182, t183⟩, A170, H⟩ := H
          replace H : ((spec_l6Gate.f t167 t168 t171 t175 t176 t177 t178 t179 t180 t181 t182 t183 t140 t174).bind fun bt184 => (if bt184.2.2.1.length < 17592186044416 then (spec_AdderCircuit.l0 k1 a0 bt184.2.2.2 (wrap64 (x6_1 + 1)) bt184.1 bt184.2.1 (bt184.2.2.1 ++ [t157])) else (none))) = some (r1, r2, r3, r4) := H
          have A17 := Aside0.mk A170
          clear A170
          replace H := Option.bind_eq_some_iff.mp H
          obtain ⟨⟨t184, t185, t188, t191⟩, A180, H⟩ := H
          replace H : (if t188.length < 17592186044416 then (spec_AdderCircuit.l0 k1 a0 t191 (wrap64 (x6_1 + 1)) t184 t185 (t188 ++ [t157])) else (none)) = some (r1, r2, r3, r4) := H
          have A18 := Aside0.mk A180
          clear A180
          by_cases c19 : t188.length < 17592186044416
          · rw [if_pos c19] at H
            have LMc19 := Aside0.mk c19
            clear c19
            obtain ⟨y192, hy192⟩ : ∃ y_ : List Int, y_ = (t188 ++ [t157]) := ⟨_, rfl⟩
            replace H : (spec_AdderCircuit.l0 k1 a0 t191 (wrap64 (x6_1 + 1)) t184 t185 y192) = some (r1, r2, r3, r4) := by first | (rw [hy192]; with_reducible exact H) | (have H2_ := (Option.bind_some _ _).symm.trans H; rw [hy192]; with_reducible exact H2_) | (have H2_ := (Option.bind_some _ _).symm.trans H; with_reducible exact H2_) | with_reducible exact H | (rw [hy192]; exact H) | exact H
            have Ny192 := Aside0.mk hy192
            clear hy192
            have H' := Aside0.mk H
            clear H
            try go_wp2
            have n0_ := Aside0.mk (Kd.R_drew HO_104001.out)
            have n1_ := Aside0.mk (Kd.R_drew HO_104002.out)
            have n2_ := Aside0.mk (blk_drew BK101.out)
            have n3_ := Aside0.mk (blk_drew BK103.out)
            have n4_ := Aside0.mk (below_drew1 HB.out)
            clear HO_104001
            clear HO_104002
            clear BK101
            clear BK103
            clear HB
            have HO_104001 := n0_
            have HO_104002 := n1_
            have BK101 := n2_
            have BK103 := n3_
            have HB := n4_
            clear n0_ n1_ n2_ n3_ n4_
            refine start_ (n := 11) (S := fun w' => w'.cell? ⟨gb103, 0, none⟩ = some (.int .i64 x104000_1) ∧ w'.cell? ⟨gb103, 1, none⟩ = some (u104001) ∧ w'.cell? ⟨gb103, 2, none⟩ = some (u104002)) (ds := [9]) #[false, false, false, false, false, false, false, false, false, false, false] (by kernel_rfl) rfl rfl ⟨(blk_cell BK103.out 0).trans rfl, (blk_cell BK103.out 1).trans rfl, (blk_cell BK103.out 2).trans rfl⟩ (fun hHeld => ?_); refine with_tabW spec_AdderCircuit.tab10 spec_AdderCircuit.bits10 (fun HT_ HW_ => ?_)
            generalize wr.drew = w20 at HO_104001 HO_104002 BK101 BK103 HB hHeld ⊢
            refine pure_ (i := 2) (N := some 30) (v := ?_) (a' := ?_) #[false, false, true, false, false, false, false, false, false, false, false] rfl rfl (any_of HT_.out (by kernel_rfl)) (fun _ _ _ h => h) (Or.inl ⟨by rfl, ?_⟩) ?_ ?_
            rotate_left
            · intro w'
              go_simp
              with_reducible rfl
            rotate_left
            · simp only [Act.put, List.setIfInBounds_toArray, List.set_cons_zero, List.set_cons_succ, i64_w, i32_w]
              rfl
            refine pure_ (i := 3) (N := some 31) (v := ?_) (a' := ?_) #[false, false, true, true, false, false, false, false, false, false, false] rfl rfl (any_of HT_.out (by kernel_rfl)) (fun _ _ _ h => h) (Or.inl ⟨by rfl, ?_⟩) ?_ ?_
            rotate_left
            · intro w'
              go_simp
              with_reducible rfl
            rotate_left
            · simp only [Act.put, List.setIfInBounds_toArray, List.set_cons_zero, List.set_cons_succ, i64_w, i32_w]
              rfl
            refine pure_ (i := 4) (N := some 32) (v := ?_) (a' := ?_) #[false, false, true, true, true, false, false, false, false, false, false] rfl rfl (any_of HT_.out (by kernel_rfl)) (fun _ _ _ h => h) (Or.inl ⟨by rfl, ?_⟩) ?_ ?_
            rotate_left
            · intro w'
              go_simp
              with_reducible rfl
            rotate_left
            · simp only [Act.put, List.setIfInBounds_toArray, List.set_cons_zero, List.set_cons_succ, i64_w, i32_w]
              rfl
            refine take_ (i := 0) (N := some 28) (v := ?_) (a' := ?_) #[true, false, true, true, true, false, false, false, false, false, false] rfl rfl (take_ofW HT_.out HW_.out (by kernel_rfl)) (fun _ _ _ h => h) (Or.inl ⟨by rfl, ?_⟩) hHeld ?_ ?_
            rotate_left
            · rintro w' ⟨s0, s1, s2⟩
              go_simp
              with_reducible rfl
            rotate_left
            · simp only [Act.put, List.setIfInBounds_toArray, List.set_cons_zero, List.set_cons_succ, i64_w, i32_w]
              rfl
            refine one_ (i := 1) (N := some 29) #[true, true, true, true, true, false, false, false, false, false, false] rfl rfl (one_of HT_.out (by kernel_rfl)) (by decide) (fun K hK => ?_)
            refine goes_ Try.func77 (by kernel_rfl) rfl #[.string (⟨#[115, 117, 109]⟩ : ByteArray)] (by rfl) rfl rfl (by (try simp only [List.map_toArray, List.map_cons, List.map_nil]); first | done | rfl | (simp only [List.length_drop, List.length_take]; rfl)) ?_
            with_reducible refine (spec_TableOf.calls k1 (⟨#[115, 117, 109]⟩ : ByteArray) t107 t108 t109 t110 t111 t112 t113 t114 t115 _ A9.out).mono ?_
            rintro e w21 ⟨rfl, hb⟩
            refine ⟨_, rfl, ?_⟩
            have n0_ := Aside0.mk (Kd.R_below (by (with_reducible repeat (first | apply Kd.R_alloc | apply Kd.R_drewN | apply Kd.R_drew)); exact HO_104001.out) hb)
            have n1_ := Aside0.mk (Kd.R_below (by (with_reducible repeat (first | apply Kd.R_alloc | apply Kd.R_drewN | apply Kd.R_drew)); exact HO_104002.out) hb)
            have n2_ := Aside0.mk (blk_below (g := gb101) (o := .cells #[.int .i64 0, .slice none 0 0, .slice none 0 0] 35 (0, 0)) (by (with_reducible repeat (first | refine blk_drewN ?_ _ | refine blk_drew ?_ | refine blk_alloc ?_ _)); exact BK101.out) hb)
            have n3_ := Aside0.mk (blk_below (g := gb103) (o := .cells #[.int .i64 x104000_1, u104001, u104002] 35 (0, 0)) (by (with_reducible repeat (first | refine blk_drewN ?_ _ | refine blk_drew ?_ | refine blk_alloc ?_ _)); exact BK103.out) hb)
            have n4_ := Aside0.mk (below_step (by repeat (first | (with_reducible first | exact HB.out | apply below_alloc | apply pw_below_drewN | apply below_drew1 | refine below_set ?_ GE101.out | refine below_set ?_ GE103.out) | exact HB.out)) hb)
            clear HO_104001
            clear HO_104002
            clear BK101
            clear BK103
            clear HB
            have HO_104001 := n0_
            have HO_104002 := n1_
            have BK101 := n2_
            have BK103 := n3_
            have HB := n4_
            clear n0_ n1_ n2_ n3_ n4_
            (try clear hb)
            (try clear hb2)
            (try clear hk)
            (try clear hi)
            clear A9
            obtain ⟨Ao22, co22, eo22⟩ := Kd.R_slice HO_104001.out
            (first | subst eo22 | (injection eo22 with f1_ f2_ f3_; have f4_ := f1_.symm; have f5_ := f3_.symm; clear f1_ f2_ f3_; subst f4_; subst f5_))
            obtain ⟨Ao23, co23, eo23⟩ := Kd.R_slice HO_104002.out
            (first | subst eo23 | (injection eo23 with f1_ f2_ f3_; have f4_ := f1_.symm; have f5_ := f3_.symm; clear f1_ f2_ f3_; subst f4_; subst f5_))
            refine hK.out _ _ ⟨(blk_cell BK103.out 0).trans rfl, (blk_cell BK103.out 1).trans rfl, (blk_cell BK103.out 2).trans rfl⟩ (fun hHeld => ?_)
            clear hK K
            refine norm_ (a' := ?_) ?_ ?_
            rotate_left
            · show Act.put _ (some 29) _ = _
              simp only [Act.put, List.setIfInBounds_toArray, List.set_cons_zero, List.set_cons_succ, i64_w, i32_w]
              rfl
            refine one_ (i := 5) (N := some 33) #[true, true, true, true, true, true, false, false, false, false, false] rfl rfl (one_of HT_.out (by kernel_rfl)) (by decide) (fun K hK => ?_)
            refine goes_ Try.func76 (by kernel_rfl) rfl #[.agg #[.int .i64 x104000_1, .slice Ao22 x104001_1.length co22, .slice Ao23 x104002_1.length co23], .agg #[.int .i64 t107, .int .i64 t108, .int .i64 t109, .int .i64 t110, .int .i64 t111, .int .i64 t112, .int .i64 t113, .int .i64 t114, .int .i64 t115], .int .i64 (wrap64 (3 + (wrap64 (2 * x6_1)))), .int .i64 (wrap64 ((wrap64 (3 + (wrap64 (2 * x6_1)))) + 1))] (by rfl) rfl rfl (by (try simp only [List.map_toArray, List.map_cons, List.map_nil]); first | done | rfl | (simp only [List.length_drop, List.length_take]; rfl)) ?_
            with_reducible refine (spec_l6Gate.calls x104000_1 (fun k_ => some k_ = (.slice Ao22 x104001_1.length co22 : Value).ownBlock) (.slice Ao22 x104001_1.length co22) x104001_1 (fun k_ => some k_ = (.slice Ao23 x104002_1.length co23 : Value).ownBlock) (.slice Ao23 x104002_1.length co23) x104002_1 t107 t108 t109 t110 t111 t112 t113 t114 t115 (wrap64 (3 + (wrap64 (2 * x6_1)))) (wrap64 ((wrap64 (3 + (wrap64 (2 * x6_1)))) + 1)) t116 t117 t120 t123 w _ ?side1 ?side2 ?side3 A10.out).mono ?_
            (case side1 => repeat (first | (with_reducible first | exact HB.out | apply below_alloc | apply pw_below_drewN | apply below_drew1 | refine below_set ?_ GE101.out | refine below_set ?_ GE103.out) | exact HB.out))
            (case side2 => exact Kd.R_tight rfl HO_104001.out)
            (case side3 => exact Kd.R_tight rfl HO_104002.out)
            rintro e w24 ⟨v118, v121, rfl, ho0, ho1, hb, hkp⟩
            refine ⟨_, rfl, ?_⟩
            have n0_ := Aside0.mk (blk_kept (by (with_reducible repeat (first | refine blk_drewN ?_ _ | refine blk_drew ?_ | refine blk_alloc ?_ _)); exact BK101.out) hkp (fun hs_ => Or.elim hs_ (fun e_ => (fun e_ => (Kd.R_ne HO_104001.out BK101.out (by decide)) e_) e_) (fun e_ => (fun e_ => (Kd.R_ne HO_104002.out BK101.out (by decide)) e_) e_)))
            have n1_ := Aside0.mk (blk_kept (by (with_reducible repeat (first | refine blk_drewN ?_ _ | refine blk_drew ?_ | refine blk_alloc ?_ _)); exact BK103.out) hkp (fun hs_ => Or.elim hs_ (fun e_ => (fun e_ => (Kd.R_ne HO_104001.out BK103.out (by decide)) e_) e_) (fun e_ => (fun e_ => (Kd.R_ne HO_104002.out BK103.out (by decide)) e_) e_)))
            have n2_ := Aside0.mk (Kd.R_mono (ok' := fun k_ => True) ho0 (fun k_ hk_ => trivial))
            have n3_ := Aside0.mk (Kd.R_mono (ok' := fun k_ => True) ho1 (fun k_ hk_ => trivial))
            have n4_ := Aside0.mk (hb)
            clear BK101
            clear BK103
            clear HB
            clear HO_104001
            clear HO_104002
            have BK101 := n0_
            have BK103 := n1_
            have HO119 := n2_
            have HO122 := n3_
            have HB := n4_
            clear n0_ n1_ n2_ n3_ n4_
            (try clear hb)
            (try clear hkp)
            (try clear ho0)
            (try clear ho1)
            obtain ⟨Ao26, co26, eo26⟩ := Kd.R_slice HO119.out
            (first | subst eo26 | (injection eo26 with f1_ f2_ f3_; have f4_ := f1_.symm; have f5_ := f3_.symm; clear f1_ f2_ f3_; subst f4_; subst f5_))
            obtain ⟨Ao28, co28, eo28⟩ := Kd.R_slice HO122.out
            (first | subst eo28 | (injection eo28 with f1_ f2_ f3_; have f4_ := f1_.symm; have f5_ := f3_.symm; clear f1_ f2_ f3_; subst f4_; subst f5_))
            refine hK.out _ _ ⟨(blk_cell BK103.out 0).trans rfl, (blk_cell BK103.out 1).trans rfl, (blk_cell BK103.out 2).trans rfl⟩ (fun hHeld => ?_)
            clear hK K
            refine norm_ (a' := ?_) ?_ ?_
            rotate_left
            · show Act.put _ (some 33) _ = _
              simp only [Act.put, List.setIfInBounds_toArray, List.set_cons_zero, List.set_cons_succ, i64_w, i32_w]
              rfl
            refine pure_ (i := 6) (N := some 27) (v := ?_) (a' := ?_) #[true, true, true, true, true, true, true, false, false, false, false] rfl rfl (any_of HT_.out (by kernel_rfl)) (fun _ _ _ h => h) (Or.inl ⟨by rfl, ?_⟩) ?_ ?_
            rotate_left
            · intro w'
              go_simp
              with_reducible rfl
            rotate_left
            · simp only [Act.put, List.setIfInBounds_toArray, List.set_cons_zero, List.set_cons_succ, i64_w, i32_w]
              rfl
            refine pure_ (i := 7) (N := some 34) (v := ?_) (a' := ?_) #[true, true, true, true, true, true, true, true, false, false, false] rfl rfl (any_of HT_.out (by kernel_rfl)) (fun _ _ _ h => h) (Or.inl ⟨by rfl, ?_⟩) ?_ ?_
            rotate_left
            · intro w'
              go_simp
              with_reducible rfl
            rotate_left
            · simp only [Act.put, List.setIfInBounds_toArray, List.set_cons_zero, List.set_cons_succ, i64_w, i32_w]
              rfl
            refine pure_ (i := 8) (N := some 35) (v := ?_) (a' := ?_) #[true, true, true, true, true, true, true, true, true, false, false] rfl rfl (any_of HT_.out (by kernel_rfl)) (fun _ _ _ h => h) (Or.inl ⟨by rfl, ?_⟩) ?_ ?_
            rotate_left
            · intro w'
              go_simp
              with_reducible rfl
            rotate_left
            · simp only [Act.put, List.setIfInBounds_toArray, List.set_cons_zero, List.set_cons_succ, i64_w, i32_w]
              rfl
            refine last_ (i := 9) (N := none) #[true, true, true, true, true, true, true, true, true, true, false] rfl rfl (one_of HT_.out (by kernel_rfl)) (by decide) (fun K hK => ?_)
            have hs25 : w24.cell? ⟨gb103, 0, none⟩ = some (.int .i64 x104000_1) := (blk_cell BK103.out 0).trans rfl
            have hfs25 := blk_frozen BK103.out 0
            have hns25_0 := NB101_103.out
            have hms25_0 := NB103_101.out
            have hs27 : w24.cell? ⟨gb103, 1, none⟩ = some (.slice Ao22 x104001_1.length co22) := (blk_cell BK103.out 1).trans rfl
            have hfs27 := blk_frozen BK103.out 1
            have hns27_0 := NB101_103.out
            have hms27_0 := NB103_101.out
            have hs29 : w24.cell? ⟨gb103, 2, none⟩ = some (.slice Ao23 x104002_1.length co23) := (blk_cell BK103.out 2).trans rfl
            have hfs29 := blk_frozen BK103.out 2
            have hns29_0 := NB101_103.out
            have hms29_0 := NB103_101.out
            refine skip_ (w1 := ?_) (by rfl) rfl ?_ ?_
            rotate_left
            · go_simp
              rfl
            refine hK.out _ _ ?_
            clear hK K
            refine pure_ (i := 10) (N := some 8) (v := ?_) (a' := ?_) #[true, true, true, true, true, true, true, true, true, true, true] rfl rfl (any_of HT_.out (by kernel_rfl)) (fun _ _ _ h => h) (Or.inl ⟨by rfl, ?_⟩) ?_ ?_
            rotate_left
            · intro w'
              go_simp
              with_reducible rfl
            rotate_left
            · simp only [Act.put, List.setIfInBounds_toArray, List.set_cons_zero, List.set_cons_succ, i64_w, i32_w]
              rfl
            refine done_ (done_of HT_.out (by kernel_rfl)) ?_
            try go_wp2
            have n0_ : Aside0 (Kd.R k46 46 (((w24.setCell ⟨gb103, 0, none⟩ (.int .i64 t116)).setCell ⟨gb103, 1, none⟩ (.slice Ao26 t117.length co26)).setCell ⟨gb103, 2, none⟩ (.slice Ao28 t120.length co28)) w.heap.size (fun _ => True) (.slice Ao26 t117.length co26) t117) := ⟨by (with_reducible repeat (first | apply Kd.R_alloc | apply Kd.R_drewN | apply Kd.R_drew)); exact Kd.R_mono (Kd.R_far (p := ⟨gb103, 2, none⟩) (Kd.R_far (p := ⟨gb103, 1, none⟩) (Kd.R_far (p := ⟨gb103, 0, none⟩) (Kd.R_types HO119.out BK103.out (by decide)) (fun _ hk => hk.2) (.int .i64 t116)) (fun _ hk => hk.2) (.slice Ao26 t117.length co26)) (fun _ hk => hk.2) (.slice Ao28 t120.length co28)) (fun _ hk => trivial)⟩
            have n1_ : Aside0 (Kd.R (Kd.int .i64) 3 (((w24.setCell ⟨gb103, 0, none⟩ (.int .i64 t116)).setCell ⟨gb103, 1, none⟩ (.slice Ao26 t117.length co26)).setCell ⟨gb103, 2, none⟩ (.slice Ao28 t120.length co28)) w.heap.size (fun _ => True) (.slice Ao28 t120.length co28) t120) := ⟨by (with_reducible repeat (first | apply Kd.R_alloc | apply Kd.R_drewN | apply Kd.R_drew)); exact Kd.R_mono (Kd.R_far (p := ⟨gb103, 2, none⟩) (Kd.R_far (p := ⟨gb103, 1, none⟩) (Kd.R_far (p := ⟨gb103, 0, none⟩) (Kd.R_types HO122.out BK103.out (by decide)) (fun _ hk => hk.2) (.int .i64 t116)) (fun _ hk => hk.2) (.slice Ao26 t117.length co26)) (fun _ hk => hk.2) (.slice Ao28 t120.length co28)) (fun _ hk => trivial)⟩
            have n2_ : Aside0 ((((w24.setCell ⟨gb103, 0, none⟩ (.int .i64 t116)).setCell ⟨gb103, 1, none⟩ (.slice Ao26 t117.length co26)).setCell ⟨gb103, 2, none⟩ (.slice Ao28 t120.length co28)).heap[gb101]? = some (.cells #[.int .i64 0, .slice none 0 0, .slice none 0 0] 35 (0, 0))) := ⟨by (with_reducible repeat (first | refine blk_drewN ?_ _ | refine blk_drew ?_ | refine blk_alloc ?_ _)); refine blk_far ?_ NB101_103.out _; (with_reducible repeat (first | refine blk_drewN ?_ _ | refine blk_drew ?_ | refine blk_alloc ?_ _)); refine blk_far ?_ NB101_103.out _; (with_reducible repeat (first | refine blk_drewN ?_ _ | refine blk_drew ?_ | refine blk_alloc ?_ _)); refine blk_far ?_ NB101_103.out _; (with_reducible repeat (first | refine blk_drewN ?_ _ | refine blk_drew ?_ | refine blk_alloc ?_ _)); exact BK101.out⟩
            have n3_ : Aside0 ((((w24.setCell ⟨gb103, 0, none⟩ (.int .i64 t116)).setCell ⟨gb103, 1, none⟩ (.slice Ao26 t117.length co26)).setCell ⟨gb103, 2, none⟩ (.slice Ao28 t120.length co28)).heap[gb103]? = some (.cells #[.int .i64 t116, .slice Ao26 t117.length co26, .slice Ao28 t120.length co28] 35 (0, 0))) := ⟨by (with_reducible repeat (first | refine blk_drewN ?_ _ | refine blk_drew ?_ | refine blk_alloc ?_ _)); refine blk_put (cs := #[.int .i64 t116, .slice Ao26 t117.length co26, .slice Ao23 x104002_1.length co23]) ?_ 2 _ rfl; (with_reducible repeat (first | refine blk_drewN ?_ _ | refine blk_drew ?_ | refine blk_alloc ?_ _)); refine blk_put (cs := #[.int .i64 t116, .slice Ao22 x104001_1.length co22, .slice Ao23 x104002_1.length co23]) ?_ 1 _ rfl; (with_reducible repeat (first | refine blk_drewN ?_ _ | refine blk_drew ?_ | refine blk_alloc ?_ _)); refine blk_put (cs := #[.int .i64 x104000_1, .slice Ao22 x104001_1.length co22, .slice Ao23 x104002_1.length co23]) ?_ 0 _ rfl; (with_reducible repeat (first | refine blk_drewN ?_ _ | refine blk_drew ?_ | refine blk_alloc ?_ _)); exact BK103.out⟩
            have n4_ : Aside0 (Below w.heap.size w (((w24.setCell ⟨gb103, 0, none⟩ (.int .i64 t116)).setCell ⟨gb103, 1, none⟩ (.slice Ao26 t117.length co26)).setCell ⟨gb103, 2, none⟩ (.slice Ao28 t120.length co28))) := ⟨by repeat (first | (with_reducible first | exact HB.out | apply below_alloc | apply pw_below_drewN | apply below_drew1 | refine below_set ?_ GE101.out | refine below_set ?_ GE103.out) | exact HB.out)⟩
            (try clear HO119)
            (try clear HO122)
            (try clear BK101)
            (try clear BK103)
            (try clear HB)
            generalize (((w24.setCell ⟨gb103, 0, none⟩ (.int .i64 t116)).setCell ⟨gb103, 1, none⟩ (.slice Ao26 t117.length co26)).setCell ⟨gb103, 2, none⟩ (.slice Ao28 t120.length co28)) = w30 at n0_ n1_ n2_ n3_ n4_ ⊢
            have HO119 := n0_
            have HO122 := n1_
            have BK101 := n2_
            have BK103 := n3_
            have HB := n4_
            clear n0_ n1_ n2_ n3_ n4_
            have n0_ := Aside0.mk (Kd.R_drew HO119.out)
            have n1_ := Aside0.mk (Kd.R_drew HO122.out)
            have n2_ := Aside0.mk (blk_drew BK101.out)
            have n3_ := Aside0.mk (blk_drew BK103.out)
            have n4_ := Aside0.mk (below_drew1 HB.out)
            clear HO119
            clear HO122
            clear BK101
            clear BK103
            clear HB
            have HO119 := n0_
            have HO122 := n1_
            have BK101 := n2_
            have BK103 := n3_
            have HB := n4_
            clear n0_ n1_ n2_ n3_ n4_
            refine start_ (n := 11) (S := fun w' => w'.cell? ⟨gb103, 0, none⟩ = some (.int .i64 t116) ∧ w'.cell? ⟨gb103, 1, none⟩ = some (.slice Ao26 t117.length co26) ∧ w'.cell? ⟨gb103, 2, none⟩ = some (.slice Ao28 t120.length co28)) (ds := [9]) #[false, false, false, false, false, false, false, false, false, false, false] (by kernel_rfl) rfl rfl ⟨(blk_cell BK103.out 0).trans rfl, (blk_cell BK103.out 1).trans rfl, (blk_cell BK103.out 2).trans rfl⟩ (fun hHeld => ?_); refine with_tabW spec_AdderCircuit.tab11 spec_AdderCircuit.bits11 (fun HT_ HW_ => ?_)
            generalize w30.drew = w31 at HO119 HO122 BK101 BK103 HB hHeld ⊢
            refine pure_ (i := 2) (N := some 39) (v := ?_) (a' := ?_) #[false, false, true, false, false, false, false, false, false, false, false] rfl rfl (any_of HT_.out (by kernel_rfl)) (fun _ _ _ h => h) (Or.inl ⟨by rfl, ?_⟩) ?_ ?_
            rotate_left
            · intro w'
              go_simp
              with_reducible rfl
            rotate_left
            · simp only [Act.put, List.setIfInBounds_toArray, List.set_cons_zero, List.set_cons_succ, i64_w, i32_w]
              rfl
            refine pure_ (i := 3) (N := some 40) (v := ?_) (a' := ?_) #[false, false, true, true, false, false, false, false, false, false, false] rfl rfl (any_of HT_.out (by kernel_rfl)) (fun _ _ _ h => h) (Or.inl ⟨by rfl, ?_⟩) ?_ ?_
            rotate_left
            · intro w'
              go_simp
              with_reducible rfl
            rotate_left
            · simp only [Act.put, List.setIfInBounds_toArray, List.set_cons_zero, List.set_cons_succ, i64_w, i32_w]
              rfl
            refine pure_ (i := 4) (N := some 41) (v := ?_) (a' := ?_) #[false, false, true, true, true, false, false, false, false, false, false] rfl rfl (any_of HT_.out (by kernel_rfl)) (fun _ _ _ h => h) (Or.inl ⟨by rfl, ?_⟩) ?_ ?_
            rotate_left
            · intro w'
              go_simp
              with_reducible rfl
            rotate_left
            · simp only [Act.put, List.setIfInBounds_toArray, List.set_cons_zero, List.set_cons_succ, i64_w, i32_w]
              rfl
            refine take_ (i := 0) (N := some 37) (v := ?_) (a' := ?_) #[true, false, true, true, true, false, false, false, false, false, false] rfl rfl (take_ofW HT_.out HW_.out (by kernel_rfl)) (fun _ _ _ h => h) (Or.inl ⟨by rfl, ?_⟩) hHeld ?_ ?_
            rotate_left
            · rintro w' ⟨s0, s1, s2⟩
              go_simp
              with_reducible rfl
            rotate_left
            · simp only [Act.put, List.setIfInBounds_toArray, List.set_cons_zero, List.set_cons_succ, i64_w, i32_w]
              rfl
            refine one_ (i := 1) (N := some 38) #[true, true, true, true, true, false, false, false, false, false, false] rfl rfl (one_of HT_.out (by kernel_rfl)) (by decide) (fun K hK => ?_)
            refine goes_ Try.func77 (by kernel_rfl) rfl #[.string (⟨#[99, 97, 114, 114, 121]⟩ : ByteArray)] (by rfl) rfl rfl (by (try simp only [List.map_toArray, List.map_cons, List.map_nil]); first | done | rfl | (simp only [List.length_drop, List.length_take]; rfl)) ?_
            with_reducible refine (spec_TableOf.calls k1 (⟨#[99, 97, 114, 114, 121]⟩ : ByteArray) t124 t125 t126 t127 t128 t129 t130 t131 t132 _ A11.out).mono ?_
            rintro e w32 ⟨rfl, hb⟩
            refine ⟨_, rfl, ?_⟩
            have n0_ := Aside0.mk (Kd.R_below (by (with_reducible repeat (first | apply Kd.R_alloc | apply Kd.R_drewN | apply Kd.R_drew)); exact HO119.out) hb)
            have n1_ := Aside0.mk (Kd.R_below (by (with_reducible repeat (first | apply Kd.R_alloc | apply Kd.R_drewN | apply Kd.R_drew)); exact HO122.out) hb)
            have n2_ := Aside0.mk (blk_below (g := gb101) (o := .cells #[.int .i64 0, .slice none 0 0, .slice none 0 0] 35 (0, 0)) (by (with_reducible repeat (first | refine blk_drewN ?_ _ | refine blk_drew ?_ | refine blk_alloc ?_ _)); exact BK101.out) hb)
            have n3_ := Aside0.mk (blk_below (g := gb103) (o := .cells #[.int .i64 t116, .slice Ao26 t117.length co26, .slice Ao28 t120.length co28] 35 (0, 0)) (by (with_reducible repeat (first | refine blk_drewN ?_ _ | refine blk_drew ?_ | refine blk_alloc ?_ _)); exact BK103.out) hb)
            have n4_ := Aside0.mk (below_step (by repeat (first | (with_reducible first | exact HB.out | apply below_alloc | apply pw_below_drewN | apply below_drew1 | refine below_set ?_ GE101.out | refine below_set ?_ GE103.out) | exact HB.out)) hb)
            clear HO119
            clear HO122
            clear BK101
            clear BK103
            clear HB
            have HO119 := n0_
            have HO122 := n1_
            have BK101 := n2_
            have BK103 := n3_
            have HB := n4_
            clear n0_ n1_ n2_ n3_ n4_
            (try clear hb)
            (try clear hb2)
            (try clear hk)
            (try clear hi)
            clear A11
            refine hK.out _ _ ⟨(blk_cell BK103.out 0).trans rfl, (blk_cell BK103.out 1).trans rfl, (blk_cell BK103.out 2).trans rfl⟩ (fun hHeld => ?_)
            clear hK K
            refine norm_ (a' := ?_) ?_ ?_
            rotate_left
            · show Act.put _ (some 38) _ = _
              simp only [Act.put, List.setIfInBounds_toArray, List.set_cons_zero, List.set_cons_succ, i64_w, i32_w]
              rfl
            refine one_ (i := 5) (N := some 42) #[true, true, true, true, true, true, false, false, false, false, false] rfl rfl (one_of HT_.out (by kernel_rfl)) (by decide) (fun K hK => ?_)
            refine goes_ Try.func76 (by kernel_rfl) rfl #[.agg #[.int .i64 t116, .slice Ao26 t117.length co26, .slice Ao28 t120.length co28], .agg #[.int .i64 t124, .int .i64 t125, .int .i64 t126, .int .i64 t127, .int .i64 t128, .int .i64 t129, .int .i64 t130, .int .i64 t131, .int .i64 t132], .int .i64 (wrap64 (3 + (wrap64 (2 * x6_1)))), .int .i64 (wrap64 ((wrap64 (3 + (wrap64 (2 * x6_1)))) + 1))] (by rfl) rfl rfl (by (try simp only [List.map_toArray, List.map_cons, List.map_nil]); first | done | rfl | (simp only [List.length_drop, List.length_take]; rfl)) ?_
            with_reducible refine (spec_l6Gate.calls t116 (fun k_ => some k_ = (.slice Ao26 t117.length co26 : Value).ownBlock) (.slice Ao26 t117.length co26) t117 (fun k_ => some k_ = (.slice Ao28 t120.length co28 : Value).ownBlock) (.slice Ao28 t120.length co28) t120 t124 t125 t126 t127 t128 t129 t130 t131 t132 (wrap64 (3 + (wrap64 (2 * x6_1)))) (wrap64 ((wrap64 (3 + (wrap64 (2 * x6_1)))) + 1)) t133 t134 t137 t140 w _ ?side1 ?side2 ?side3 A12.out).mono ?_
            (case side1 => repeat (first | (with_reducible first | exact HB.out | apply below_alloc | apply pw_below_drewN | apply below_drew1 | refine below_set ?_ GE101.out | refine below_set ?_ GE103.out) | exact HB.out))
            (case side2 => exact Kd.R_tight rfl HO119.out)
            (case side3 => exact Kd.R_tight rfl HO122.out)
            rintro e w33 ⟨v135, v138, rfl, ho0, ho1, hb, hkp⟩
            refine ⟨_, rfl, ?_⟩
            have n0_ := Aside0.mk (blk_kept (by (with_reducible repeat (first | refine blk_drewN ?_ _ | refine blk_drew ?_ | refine blk_alloc ?_ _)); exact BK101.out) hkp (fun hs_ => Or.elim hs_ (fun e_ => (fun e_ => (Kd.R_ne HO119.out BK101.out (by decide)) e_) e_) (fun e_ => (fun e_ => (Kd.R_ne HO122.out BK101.out (by decide)) e_) e_)))
            have n1_ := Aside0.mk (blk_kept (by (with_reducible repeat (first | refine blk_drewN ?_ _ | refine blk_drew ?_ | refine blk_alloc ?_ _)); exact BK103.out) hkp (fun hs_ => Or.elim hs_ (fun e_ => (fun e_ => (Kd.R_ne HO119.out BK103.out (by decide)) e_) e_) (fun e_ => (fun e_ => (Kd.R_ne HO122.out BK103.out (by decide)) e_) e_)))
            have n2_ := Aside0.mk (Kd.R_mono (ok' := fun k_ => True) ho0 (fun k_ hk_ => trivial))
            have n3_ := Aside0.mk (Kd.R_mono (ok' := fun k_ => True) ho1 (fun k_ hk_ => trivial))
            have n4_ := Aside0.mk (hb)
            clear BK101
            clear BK103
            clear HB
            clear HO119
            clear HO122
            have BK101 := n0_
            have BK103 := n1_
            have HO136 := n2_
            have HO139 := n3_
            have HB := n4_
            clear n0_ n1_ n2_ n3_ n4_
            (try clear hb)
            (try clear hkp)
            (try clear ho0)
            (try clear ho1)
            obtain ⟨Ao35, co35, eo35⟩ := Kd.R_slice HO136.out
            (first | subst eo35 | (injection eo35 with f1_ f2_ f3_; have f4_ := f1_.symm; have f5_ := f3_.symm; clear f1_ f2_ f3_; subst f4_; subst f5_))
            obtain ⟨Ao37, co37, eo37⟩ := Kd.R_slice HO139.out
            (first | subst eo37 | (injection eo37 with f1_ f2_ f3_; have f4_ := f1_.symm; have f5_ := f3_.symm; clear f1_ f2_ f3_; subst f4_; subst f5_))
            refine hK.out _ _ ⟨(blk_cell BK103.out 0).trans rfl, (blk_cell BK103.out 1).trans rfl, (blk_cell BK103.out 2).trans rfl⟩ (fun hHeld => ?_)
            clear hK K
            refine norm_ (a' := ?_) ?_ ?_
            rotate_left
            · show Act.put _ (some 42) _ = _
              simp only [Act.put, List.setIfInBounds_toArray, List.set_cons_zero, List.set_cons_succ, i64_w, i32_w]
              rfl
            refine pure_ (i := 6) (N := some 36) (v := ?_) (a' := ?_) #[true, true, true, true, true, true, true, false, false, false, false] rfl rfl (any_of HT_.out (by kernel_rfl)) (fun _ _ _ h => h) (Or.inl ⟨by rfl, ?_⟩) ?_ ?_
            rotate_left
            · intro w'
              go_simp
              with_reducible rfl
            rotate_left
            · simp only [Act.put, List.setIfInBounds_toArray, List.set_cons_zero, List.set_cons_succ, i64_w, i32_w]
              rfl
            refine pure_ (i := 7) (N := some 43) (v := ?_) (a' := ?_) #[true, true, true, true, true, true, true, true, false, false, false] rfl rfl (any_of HT_.out (by kernel_rfl)) (fun _ _ _ h => h) (Or.inl ⟨by rfl, ?_⟩) ?_ ?_
            rotate_left
            · intro w'
              go_simp
              with_reducible rfl
            rotate_left
            · simp only [Act.put, List.setIfInBounds_toArray, List.set_cons_zero, List.set_cons_succ, i64_w, i32_w]
              rfl
            refine pure_ (i := 8) (N := some 44) (v := ?_) (a' := ?_) #[true, true, true, true, true, true, true, true, true, false, false] rfl rfl (any_of HT_.out (by kernel_rfl)) (fun _ _ _ h => h) (Or.inl ⟨by rfl, ?_⟩) ?_ ?_
            rotate_left
            · intro w'
              go_simp
              with_reducible rfl
            rotate_left
            · simp only [Act.put, List.setIfInBounds_toArray, List.set_cons_zero, List.set_cons_succ, i64_w, i32_w]
              rfl
            refine last_ (i := 9) (N := none) #[true, true, true, true, true, true, true, true, true, true, false] rfl rfl (one_of HT_.out (by kernel_rfl)) (by decide) (fun K hK => ?_)
            have hs34 : w33.cell? ⟨gb103, 0, none⟩ = some (.int .i64 t116) := (blk_cell BK103.out 0).trans rfl
            have hfs34 := blk_frozen BK103.out 0
            have hns34_0 := NB101_103.out
            have hms34_0 := NB103_101.out
            have hs36 : w33.cell? ⟨gb103, 1, none⟩ = some (.slice Ao26 t117.length co26) := (blk_cell BK103.out 1).trans rfl
            have hfs36 := blk_frozen BK103.out 1
            have hns36_0 := NB101_103.out
            have hms36_0 := NB103_101.out
            have hs38 : w33.cell? ⟨gb103, 2, none⟩ = some (.slice Ao28 t120.length co28) := (blk_cell BK103.out 2).trans rfl
            have hfs38 := blk_frozen BK103.out 2
            have hns38_0 := NB101_103.out
            have hms38_0 := NB103_101.out
            refine skip_ (w1 := ?_) (by rfl) rfl ?_ ?_
            rotate_left
            · go_simp
              rfl
            refine hK.out _ _ ?_
            clear hK K
            refine pure_ (i := 10) (N := some 9) (v := ?_) (a' := ?_) #[true, true, true, true, true, true, true, true, true, true, true] rfl rfl (any_of HT_.out (by kernel_rfl)) (fun _ _ _ h => h) (Or.inl ⟨by rfl, ?_⟩) ?_ ?_
            rotate_left
            · intro w'
              go_simp
              with_reducible rfl
            rotate_left
            · simp only [Act.put, List.setIfInBounds_toArray, List.set_cons_zero, List.set_cons_succ, i64_w, i32_w]
              rfl
            refine done_ (done_of HT_.out (by kernel_rfl)) ?_
            try go_wp2
            have n0_ : Aside0 (Kd.R k46 46 (((w33.setCell ⟨gb103, 0, none⟩ (.int .i64 t133)).setCell ⟨gb103, 1, none⟩ (.slice Ao35 t134.length co35)).setCell ⟨gb103, 2, none⟩ (.slice Ao37 t137.length co37)) w.heap.size (fun _ => True) (.slice Ao35 t134.length co35) t134) := ⟨by (with_reducible repeat (first | apply Kd.R_alloc | apply Kd.R_drewN | apply Kd.R_drew)); exact Kd.R_mono (Kd.R_far (p := ⟨gb103, 2, none⟩) (Kd.R_far (p := ⟨gb103, 1, none⟩) (Kd.R_far (p := ⟨gb103, 0, none⟩) (Kd.R_types HO136.out BK103.out (by decide)) (fun _ hk => hk.2) (.int .i64 t133)) (fun _ hk => hk.2) (.slice Ao35 t134.length co35)) (fun _ hk => hk.2) (.slice Ao37 t137.length co37)) (fun _ hk => trivial)⟩
            have n1_ : Aside0 (Kd.R (Kd.int .i64) 3 (((w33.setCell ⟨gb103, 0, none⟩ (.int .i64 t133)).setCell ⟨gb103, 1, none⟩ (.slice Ao35 t134.length co35)).setCell ⟨gb103, 2, none⟩ (.slice Ao37 t137.length co37)) w.heap.size (fun _ => True) (.slice Ao37 t137.length co37) t137) := ⟨by (with_reducible repeat (first | apply Kd.R_alloc | apply Kd.R_drewN | apply Kd.R_drew)); exact Kd.R_mono (Kd.R_far (p := ⟨gb103, 2, none⟩) (Kd.R_far (p := ⟨gb103, 1, none⟩) (Kd.R_far (p := ⟨gb103, 0, none⟩) (Kd.R_types HO139.out BK103.out (by decide)) (fun _ hk => hk.2) (.int .i64 t133)) (fun _ hk => hk.2) (.slice Ao35 t134.length co35)) (fun _ hk => hk.2) (.slice Ao37 t137.length co37)) (fun _ hk => trivial)⟩
            have n2_ : Aside0 ((((w33.setCell ⟨gb103, 0, none⟩ (.int .i64 t133)).setCell ⟨gb103, 1, none⟩ (.slice Ao35 t134.length co35)).setCell ⟨gb103, 2, none⟩ (.slice Ao37 t137.length co37)).heap[gb101]? = some (.cells #[.int .i64 0, .slice none 0 0, .slice none 0 0] 35 (0, 0))) := ⟨by (with_reducible repeat (first | refine blk_drewN ?_ _ | refine blk_drew ?_ | refine blk_alloc ?_ _)); refine blk_far ?_ NB101_103.out _; (with_reducible repeat (first | refine blk_drewN ?_ _ | refine blk_drew ?_ | refine blk_alloc ?_ _)); refine blk_far ?_ NB101_103.out _; (with_reducible repeat (first | refine blk_drewN ?_ _ | refine blk_drew ?_ | refine blk_alloc ?_ _)); refine blk_far ?_ NB101_103.out _; (with_reducible repeat (first | refine blk_drewN ?_ _ | refine blk_drew ?_ | refine blk_alloc ?_ _)); exact BK101.out⟩
            have n3_ : Aside0 ((((w33.setCell ⟨gb103, 0, none⟩ (.int .i64 t133)).setCell ⟨gb103, 1, none⟩ (.slice Ao35 t134.length co35)).setCell ⟨gb103, 2, none⟩ (.slice Ao37 t137.length co37)).heap[gb103]? = some (.cells #[.int .i64 t133, .slice Ao35 t134.length co35, .slice Ao37 t137.length co37] 35 (0, 0))) := ⟨by (with_reducible repeat (first | refine blk_drewN ?_ _ | refine blk_drew ?_ | refine blk_alloc ?_ _)); refine blk_put (cs := #[.int .i64 t133, .slice Ao35 t134.length co35, .slice Ao28 t120.length co28]) ?_ 2 _ rfl; (with_reducible repeat (first | refine blk_drewN ?_ _ | refine blk_drew ?_ | refine blk_alloc ?_ _)); refine blk_put (cs := #[.int .i64 t133, .slice Ao26 t117.length co26, .slice Ao28 t120.length co28]) ?_ 1 _ rfl; (with_reducible repeat (first | refine blk_drewN ?_ _ | refine blk_drew ?_ | refine blk_alloc ?_ _)); refine blk_put (cs := #[.int .i64 t116, .slice Ao26 t117.length co26, .slice Ao28 t120.length co28]) ?_ 0 _ rfl; (with_reducible repeat (first | refine blk_drewN ?_ _ | refine blk_drew ?_ | refine blk_alloc ?_ _)); exact BK103.out⟩
            have n4_ : Aside0 (Below w.heap.size w (((w33.setCell ⟨gb103, 0, none⟩ (.int .i64 t133)).setCell ⟨gb103, 1, none⟩ (.slice Ao35 t134.length co35)).setCell ⟨gb103, 2, none⟩ (.slice Ao37 t137.length co37))) := ⟨by repeat (first | (with_reducible first | exact HB.out | apply below_alloc | apply pw_below_drewN | apply below_drew1 | refine below_set ?_ GE101.out | refine below_set ?_ GE103.out) | exact HB.out)⟩
            (try clear HO136)
            (try clear HO139)
            (try clear BK101)
            (try clear BK103)
            (try clear HB)
            generalize (((w33.setCell ⟨gb103, 0, none⟩ (.int .i64 t133)).setCell ⟨gb103, 1, none⟩ (.slice Ao35 t134.length co35)).setCell ⟨gb103, 2, none⟩ (.slice Ao37 t137.length co37)) = w39 at n0_ n1_ n2_ n3_ n4_ ⊢
            have HO136 := n0_
            have HO139 := n1_
            have BK101 := n2_
            have BK103 := n3_
            have HB := n4_
            clear n0_ n1_ n2_ n3_ n4_
            have n0_ := Aside0.mk (Kd.R_drew HO136.out)
            have n1_ := Aside0.mk (Kd.R_drew HO139.out)
            have n2_ := Aside0.mk (blk_drew BK101.out)
            have n3_ := Aside0.mk (blk_drew BK103.out)
            have n4_ := Aside0.mk (below_drew1 HB.out)
            clear HO136
            clear HO139
            clear BK101
            clear BK103
            clear HB
            have HO136 := n0_
            have HO139 := n1_
            have BK101 := n2_
            have BK103 := n3_
            have HB := n4_
            clear n0_ n1_ n2_ n3_ n4_
            refine start_ (n := 10) (S := fun w' => w'.cell? ⟨gb103, 0, none⟩ = some (.int .i64 t133) ∧ w'.cell? ⟨gb103, 1, none⟩ = some (.slice Ao35 t134.length co35) ∧ w'.cell? ⟨gb103, 2, none⟩ = some (.slice Ao37 t137.length co37)) (ds := [8]) #[false, false, false, false, false, false, false, false, false, false] (by kernel_rfl) rfl rfl ⟨(blk_cell BK103.out 0).trans rfl, (blk_cell BK103.out 1).trans rfl, (blk_cell BK103.out 2).trans rfl⟩ (fun hHeld => ?_); refine with_tabW spec_AdderCircuit.tab12 spec_AdderCircuit.bits12 (fun HT_ HW_ => ?_)
            generalize w39.drew = w40 at HO136 HO139 BK101 BK103 HB hHeld ⊢
            refine pure_ (i := 2) (N := some 48) (v := ?_) (a' := ?_) #[false, false, true, false, false, false, false, false, false, false] rfl rfl (any_of HT_.out (by kernel_rfl)) (fun _ _ _ h => h) (Or.inl ⟨by rfl, ?_⟩) ?_ ?_
            rotate_left
            · intro w'
              go_simp
              with_reducible rfl
            rotate_left
            · simp only [Act.put, List.setIfInBounds_toArray, List.set_cons_zero, List.set_cons_succ, i64_w, i32_w]
              rfl
            refine pure_ (i := 3) (N := some 49) (v := ?_) (a' := ?_) #[false, false, true, true, false, false, false, false, false, false] rfl rfl (any_of HT_.out (by kernel_rfl)) (fun _ _ _ h => h) (Or.inl ⟨by rfl, ?_⟩) ?_ ?_
            rotate_left
            · intro w'
              go_simp
              with_reducible rfl
            rotate_left
            · simp only [Act.put, List.setIfInBounds_toArray, List.set_cons_zero, List.set_cons_succ, i64_w, i32_w]
              rfl
            refine take_ (i := 0) (N := some 46) (v := ?_) (a' := ?_) #[true, false, true, true, false, false, false, false, false, false] rfl rfl (take_ofW HT_.out HW_.out (by kernel_rfl)) (fun _ _ _ h => h) (Or.inl ⟨by rfl, ?_⟩) hHeld ?_ ?_
            rotate_left
            · rintro w' ⟨s0, s1, s2⟩
              go_simp
              with_reducible rfl
            rotate_left
            · simp only [Act.put, List.setIfInBounds_toArray, List.set_cons_zero, List.set_cons_succ, i64_w, i32_w]
              rfl
            refine one_ (i := 1) (N := some 47) #[true, true, true, true, false, false, false, false, false, false] rfl rfl (one_of HT_.out (by kernel_rfl)) (by decide) (fun K hK => ?_)
            refine goes_ Try.func77 (by kernel_rfl) rfl #[.string (⟨#[115, 117, 109]⟩ : ByteArray)] (by rfl) rfl rfl (by (try simp only [List.map_toArray, List.map_cons, List.map_nil]); first | done | rfl | (simp only [List.length_drop, List.length_take]; rfl)) ?_
            with_reducible refine (spec_TableOf.calls k1 (⟨#[115, 117, 109]⟩ : ByteArray) t141 t142 t143 t144 t145 t146 t147 t148 t149 _ A13.out).mono ?_
            rintro e w41 ⟨rfl, hb⟩
            refine ⟨_, rfl, ?_⟩
            have n0_ := Aside0.mk (Kd.R_below (by (with_reducible repeat (first | apply Kd.R_alloc | apply Kd.R_drewN | apply Kd.R_drew)); exact HO136.out) hb)
            have n1_ := Aside0.mk (Kd.R_below (by (with_reducible repeat (first | apply Kd.R_alloc | apply Kd.R_drewN | apply Kd.R_drew)); exact HO139.out) hb)
            have n2_ := Aside0.mk (blk_below (g := gb101) (o := .cells #[.int .i64 0, .slice none 0 0, .slice none 0 0] 35 (0, 0)) (by (with_reducible repeat (first | refine blk_drewN ?_ _ | refine blk_drew ?_ | refine blk_alloc ?_ _)); exact BK101.out) hb)
            have n3_ := Aside0.mk (blk_below (g := gb103) (o := .cells #[.int .i64 t133, .slice Ao35 t134.length co35, .slice Ao37 t137.length co37] 35 (0, 0)) (by (with_reducible repeat (first | refine blk_drewN ?_ _ | refine blk_drew ?_ | refine blk_alloc ?_ _)); exact BK103.out) hb)
            have n4_ := Aside0.mk (below_step (by repeat (first | (with_reducible first | exact HB.out | apply below_alloc | apply pw_below_drewN | apply below_drew1 | refine below_set ?_ GE101.out | refine below_set ?_ GE103.out) | exact HB.out)) hb)
            clear HO136
            clear HO139
            clear BK101
            clear BK103
            clear HB
            have HO136 := n0_
            have HO139 := n1_
            have BK101 := n2_
            have BK103 := n3_
            have HB := n4_
            clear n0_ n1_ n2_ n3_ n4_
            (try clear hb)
            (try clear hb2)
            (try clear hk)
            (try clear hi)
            clear A13
            refine hK.out _ _ ⟨(blk_cell BK103.out 0).trans rfl, (blk_cell BK103.out 1).trans rfl, (blk_cell BK103.out 2).trans rfl⟩ (fun hHeld => ?_)
            clear hK K
            refine norm_ (a' := ?_) ?_ ?_
            rotate_left
            · show Act.put _ (some 47) _ = _
              simp only [Act.put, List.setIfInBounds_toArray, List.set_cons_zero, List.set_cons_succ, i64_w, i32_w]
              rfl
            refine one_ (i := 4) (N := some 50) #[true, true, true, true, true, false, false, false, false, false] rfl rfl (one_of HT_.out (by kernel_rfl)) (by decide) (fun K hK => ?_)
            refine goes_ Try.func76 (by kernel_rfl) rfl #[.agg #[.int .i64 t133, .slice Ao35 t134.length co35, .slice Ao37 t137.length co37], .agg #[.int .i64 t141, .int .i64 t142, .int .i64 t143, .int .i64 t144, .int .i64 t145, .int .i64 t146, .int .i64 t147, .int .i64 t148, .int .i64 t149], .int .i64 t123, .int .i64 x5_1] (by rfl) rfl rfl (by (try simp only [List.map_toArray, List.map_cons, List.map_nil]); first | done | rfl | (simp only [List.length_drop, List.length_take]; rfl)) ?_
            with_reducible refine (spec_l6Gate.calls t133 (fun k_ => some k_ = (.slice Ao35 t134.length co35 : Value).ownBlock) (.slice Ao35 t134.length co35) t134 (fun k_ => some k_ = (.slice Ao37 t137.length co37 : Value).ownBlock) (.slice Ao37 t137.length co37) t137 t141 t142 t143 t144 t145 t146 t147 t148 t149 t123 x5_1 t150 t151 t154 t157 w _ ?side1 ?side2 ?side3 A14.out).mono ?_
            (case side1 => repeat (first | (with_reducible first | exact HB.out | apply below_alloc | apply pw_below_drewN | apply below_drew1 | refine below_set ?_ GE101.out | refine below_set ?_ GE103.out) | exact HB.out))
            (case side2 => exact Kd.R_tight rfl HO136.out)
            (case side3 => exact Kd.R_tight rfl HO139.out)
            rintro e w42 ⟨v152, v155, rfl, ho0, ho1, hb, hkp⟩
            refine ⟨_, rfl, ?_⟩
            have n0_ := Aside0.mk (blk_kept (by (with_reducible repeat (first | refine blk_drewN ?_ _ | refine blk_drew ?_ | refine blk_alloc ?_ _)); exact BK101.out) hkp (fun hs_ => Or.elim hs_ (fun e_ => (fun e_ => (Kd.R_ne HO136.out BK101.out (by decide)) e_) e_) (fun e_ => (fun e_ => (Kd.R_ne HO139.out BK101.out (by decide)) e_) e_)))
            have n1_ := Aside0.mk (blk_kept (by (with_reducible repeat (first | refine blk_drewN ?_ _ | refine blk_drew ?_ | refine blk_alloc ?_ _)); exact BK103.out) hkp (fun hs_ => Or.elim hs_ (fun e_ => (fun e_ => (Kd.R_ne HO136.out BK103.out (by decide)) e_) e_) (fun e_ => (fun e_ => (Kd.R_ne HO139.out BK103.out (by decide)) e_) e_)))
            have n2_ := Aside0.mk (Kd.R_mono (ok' := fun k_ => True) ho0 (fun k_ hk_ => trivial))
            have n3_ := Aside0.mk (Kd.R_mono (ok' := fun k_ => True) ho1 (fun k_ hk_ => trivial))
            have n4_ := Aside0.mk (hb)
            clear BK101
            clear BK103
            clear HB
            clear HO136
            clear HO139
            have BK101 := n0_
            have BK103 := n1_
            have HO153 := n2_
            have HO156 := n3_
            have HB := n4_
            clear n0_ n1_ n2_ n3_ n4_
            (try clear hb)
            (try clear hkp)
            (try clear ho0)
            (try clear ho1)
            obtain ⟨Ao44, co44, eo44⟩ := Kd.R_slice HO153.out
            (first | subst eo44 | (injection eo44 with f1_ f2_ f3_; have f4_ := f1_.symm; have f5_ := f3_.symm; clear f1_ f2_ f3_; subst f4_; subst f5_))
            obtain ⟨Ao46, co46, eo46⟩ := Kd.R_slice HO156.out
            (first | subst eo46 | (injection eo46 with f1_ f2_ f3_; have f4_ := f1_.symm; have f5_ := f3_.symm; clear f1_ f2_ f3_; subst f4_; subst f5_))
            refine hK.out _ _ ⟨(blk_cell BK103.out 0).trans rfl, (blk_cell BK103.out 1).trans rfl, (blk_cell BK103.out 2).trans rfl⟩ (fun hHeld => ?_)
            clear hK K
            refine norm_ (a' := ?_) ?_ ?_
            rotate_left
            · show Act.put _ (some 50) _ = _
              simp only [Act.put, List.setIfInBounds_toArray, List.set_cons_zero, List.set_cons_succ, i64_w, i32_w]
              rfl
            refine pure_ (i := 5) (N := some 45) (v := ?_) (a' := ?_) #[true, true, true, true, true, true, false, false, false, false] rfl rfl (any_of HT_.out (by kernel_rfl)) (fun _ _ _ h => h) (Or.inl ⟨by rfl, ?_⟩) ?_ ?_
            rotate_left
            · intro w'
              go_simp
              with_reducible rfl
            rotate_left
            · simp only [Act.put, List.setIfInBounds_toArray, List.set_cons_zero, List.set_cons_succ, i64_w, i32_w]
              rfl
            refine pure_ (i := 6) (N := some 51) (v := ?_) (a' := ?_) #[true, true, true, true, true, true, true, false, false, false] rfl rfl (any_of HT_.out (by kernel_rfl)) (fun _ _ _ h => h) (Or.inl ⟨by rfl, ?_⟩) ?_ ?_
            rotate_left
            · intro w'
              go_simp
              with_reducible rfl
            rotate_left
            · simp only [Act.put, List.setIfInBounds_toArray, List.set_cons_zero, List.set_cons_succ, i64_w, i32_w]
              rfl
            refine pure_ (i := 7) (N := some 52) (v := ?_) (a' := ?_) #[true, true, true, true, true, true, true, true, false, false] rfl rfl (any_of HT_.out (by kernel_rfl)) (fun _ _ _ h => h) (Or.inl ⟨by rfl, ?_⟩) ?_ ?_
            rotate_left
            · intro w'
              go_simp
              with_reducible rfl
            rotate_left
            · simp only [Act.put, List.setIfInBounds_toArray, List.set_cons_zero, List.set_cons_succ, i64_w, i32_w]
              rfl
            refine last_ (i := 8) (N := none) #[true, true, true, true, true, true, true, true, true, false] rfl rfl (one_of HT_.out (by kernel_rfl)) (by decide) (fun K hK => ?_)
            have hs43 : w42.cell? ⟨gb103, 0, none⟩ = some (.int .i64 t133) := (blk_cell BK103.out 0).trans rfl
            have hfs43 := blk_frozen BK103.out 0
            have hns43_0 := NB101_103.out
            have hms43_0 := NB103_101.out
            have hs45 : w42.cell? ⟨gb103, 1, none⟩ = some (.slice Ao35 t134.length co35) := (blk_cell BK103.out 1).trans rfl
            have hfs45 := blk_frozen BK103.out 1
            have hns45_0 := NB101_103.out
            have hms45_0 := NB103_101.out
            have hs47 : w42.cell? ⟨gb103, 2, none⟩ = some (.slice Ao37 t137.length co37) := (blk_cell BK103.out 2).trans rfl
            have hfs47 := blk_frozen BK103.out 2
            have hns47_0 := NB101_103.out
            have hms47_0 := NB103_101.out
            refine skip_ (w1 := ?_) (by rfl) rfl ?_ ?_
            rotate_left
            · go_simp
              rfl
            refine hK.out _ _ ?_
            clear hK K
            refine pure_ (i := 9) (N := some 11) (v := ?_) (a' := ?_) #[true, true, true, true, true, true, true, true, true, true] rfl rfl (any_of HT_.out (by kernel_rfl)) (fun _ _ _ h => h) (Or.inl ⟨by rfl, ?_⟩) ?_ ?_
            rotate_left
            · intro w'
              go_simp
              with_reducible rfl
            rotate_left
            · simp only [Act.put, List.setIfInBounds_toArray, List.set_cons_zero, List.set_cons_succ, i64_w, i32_w]
              rfl
            refine done_ (done_of HT_.out (by kernel_rfl)) ?_
            try go_wp2
            have n0_ : Aside0 (Kd.R k46 46 (((w42.setCell ⟨gb103, 0, none⟩ (.int .i64 t150)).setCell ⟨gb103, 1, none⟩ (.slice Ao44 t151.length co44)).setCell ⟨gb103, 2, none⟩ (.slice Ao46 t154.length co46)) w.heap.size (fun _ => True) (.slice Ao44 t151.length co44) t151) := ⟨by (with_reducible repeat (first | apply Kd.R_alloc | apply Kd.R_drewN | apply Kd.R_drew)); exact Kd.R_mono (Kd.R_far (p := ⟨gb103, 2, none⟩) (Kd.R_far (p := ⟨gb103, 1, none⟩) (Kd.R_far (p := ⟨gb103, 0, none⟩) (Kd.R_types HO153.out BK103.out (by decide)) (fun _ hk => hk.2) (.int .i64 t150)) (fun _ hk => hk.2) (.slice Ao44 t151.length co44)) (fun _ hk => hk.2) (.slice Ao46 t154.length co46)) (fun _ hk => trivial)⟩
            have n1_ : Aside0 (Kd.R (Kd.int .i64) 3 (((w42.setCell ⟨gb103, 0, none⟩ (.int .i64 t150)).setCell ⟨gb103, 1, none⟩ (.slice Ao44 t151.length co44)).setCell ⟨gb103, 2, none⟩ (.slice Ao46 t154.length co46)) w.heap.size (fun _ => True) (.slice Ao46 t154.length co46) t154) := ⟨by (with_reducible repeat (first | apply Kd.R_alloc | apply Kd.R_drewN | apply Kd.R_drew)); exact Kd.R_mono (Kd.R_far (p := ⟨gb103, 2, none⟩) (Kd.R_far (p := ⟨gb103, 1, none⟩) (Kd.R_far (p := ⟨gb103, 0, none⟩) (Kd.R_types HO156.out BK103.out (by decide)) (fun _ hk => hk.2) (.int .i64 t150)) (fun _ hk => hk.2) (.slice Ao44 t151.length co44)) (fun _ hk => hk.2) (.slice Ao46 t154.length co46)) (fun _ hk => trivial)⟩
            have n2_ : Aside0 ((((w42.setCell ⟨gb103, 0, none⟩ (.int .i64 t150)).setCell ⟨gb103, 1, none⟩ (.slice Ao44 t151.length co44)).setCell ⟨gb103, 2, none⟩ (.slice Ao46 t154.length co46)).heap[gb101]? = some (.cells #[.int .i64 0, .slice none 0 0, .slice none 0 0] 35 (0, 0))) := ⟨by (with_reducible repeat (first | refine blk_drewN ?_ _ | refine blk_drew ?_ | refine blk_alloc ?_ _)); refine blk_far ?_ NB101_103.out _; (with_reducible repeat (first | refine blk_drewN ?_ _ | refine blk_drew ?_ | refine blk_alloc ?_ _)); refine blk_far ?_ NB101_103.out _; (with_reducible repeat (first | refine blk_drewN ?_ _ | refine blk_drew ?_ | refine blk_alloc ?_ _)); refine blk_far ?_ NB101_103.out _; (with_reducible repeat (first | refine blk_drewN ?_ _ | refine blk_drew ?_ | refine blk_alloc ?_ _)); exact BK101.out⟩
            have n3_ : Aside0 ((((w42.setCell ⟨gb103, 0, none⟩ (.int .i64 t150)).setCell ⟨gb103, 1, none⟩ (.slice Ao44 t151.length co44)).setCell ⟨gb103, 2, none⟩ (.slice Ao46 t154.length co46)).heap[gb103]? = some (.cells #[.int .i64 t150, .slice Ao44 t151.length co44, .slice Ao46 t154.length co46] 35 (0, 0))) := ⟨by (with_reducible repeat (first | refine blk_drewN ?_ _ | refine blk_drew ?_ | refine blk_alloc ?_ _)); refine blk_put (cs := #[.int .i64 t150, .slice Ao44 t151.length co44, .slice Ao37 t137.length co37]) ?_ 2 _ rfl; (with_reducible repeat (first | refine blk_drewN ?_ _ | refine blk_drew ?_ | refine blk_alloc ?_ _)); refine blk_put (cs := #[.int .i64 t150, .slice Ao35 t134.length co35, .slice Ao37 t137.length co37]) ?_ 1 _ rfl; (with_reducible repeat (first | refine blk_drewN ?_ _ | refine blk_drew ?_ | refine blk_alloc ?_ _)); refine blk_put (cs := #[.int .i64 t133, .slice Ao35 t134.length co35, .slice Ao37 t137.length co37]) ?_ 0 _ rfl; (with_reducible repeat (first | refine blk_drewN ?_ _ | refine blk_drew ?_ | refine blk_alloc ?_ _)); exact BK103.out⟩
            have n4_ : Aside0 (Below w.heap.size w (((w42.setCell ⟨gb103, 0, none⟩ (.int .i64 t150)).setCell ⟨gb103, 1, none⟩ (.slice Ao44 t151.length co44)).setCell ⟨gb103, 2, none⟩ (.slice Ao46 t154.length co46))) := ⟨by repeat (first | (with_reducible first | exact HB.out | apply below_alloc | apply pw_below_drewN | apply below_drew1 | refine below_set ?_ GE101.out | refine below_set ?_ GE103.out) | exact HB.out)⟩
            (try clear HO153)
            (try clear HO156)
            (try clear BK101)
            (try clear BK103)
            (try clear HB)
            generalize (((w42.setCell ⟨gb103, 0, none⟩ (.int .i64 t150)).setCell ⟨gb103, 1, none⟩ (.slice Ao44 t151.length co44)).setCell ⟨gb103, 2, none⟩ (.slice Ao46 t154.length co46)) = w48 at n0_ n1_ n2_ n3_ n4_ ⊢
            have HO153 := n0_
            have HO156 := n1_
            have BK101 := n2_
            have BK103 := n3_
            have HB := n4_
            clear n0_ n1_ n2_ n3_ n4_
            have n0_ := Aside0.mk (Kd.R_drew HO153.out)
            have n1_ := Aside0.mk (Kd.R_drew HO156.out)
            have n2_ := Aside0.mk (blk_drew BK101.out)
            have n3_ := Aside0.mk (blk_drew BK103.out)
            have n4_ := Aside0.mk (below_drew1 HB.out)
            clear HO153
            clear HO156
            clear BK101
            clear BK103
            clear HB
            have HO153 := n0_
            have HO156 := n1_
            have BK101 := n2_
            have BK103 := n3_
            have HB := n4_
            clear n0_ n1_ n2_ n3_ n4_
            refine start_ (n := 10) (S := fun w' => w'.cell? ⟨gb103, 0, none⟩ = some (.int .i64 t150) ∧ w'.cell? ⟨gb103, 1, none⟩ = some (.slice Ao44 t151.length co44) ∧ w'.cell? ⟨gb103, 2, none⟩ = some (.slice Ao46 t154.length co46)) (ds := [8]) #[false, false, false, false, false, false, false, false, false, false] (by kernel_rfl) rfl rfl ⟨(blk_cell BK103.out 0).trans rfl, (blk_cell BK103.out 1).trans rfl, (blk_cell BK103.out 2).trans rfl⟩ (fun hHeld => ?_); refine with_tabW spec_AdderCircuit.tab13 spec_AdderCircuit.bits13 (fun HT_ HW_ => ?_)
            generalize w48.drew = w49 at HO153 HO156 BK101 BK103 HB hHeld ⊢
            refine pure_ (i := 2) (N := some 56) (v := ?_) (a' := ?_) #[false, false, true, false, false, false, false, false, false, false] rfl rfl (any_of HT_.out (by kernel_rfl)) (fun _ _ _ h => h) (Or.inl ⟨by rfl, ?_⟩) ?_ ?_
            rotate_left
            · intro w'
              go_simp
              with_reducible rfl
            rotate_left
            · simp only [Act.put, List.setIfInBounds_toArray, List.set_cons_zero, List.set_cons_succ, i64_w, i32_w]
              rfl
            refine pure_ (i := 3) (N := some 57) (v := ?_) (a' := ?_) #[false, false, true, true, false, false, false, false, false, false] rfl rfl (any_of HT_.out (by kernel_rfl)) (fun _ _ _ h => h) (Or.inl ⟨by rfl, ?_⟩) ?_ ?_
            rotate_left
            · intro w'
              go_simp
              with_reducible rfl
            rotate_left
            · simp only [Act.put, List.setIfInBounds_toArray, List.set_cons_zero, List.set_cons_succ, i64_w, i32_w]
              rfl
            refine take_ (i := 0) (N := some 54) (v := ?_) (a' := ?_) #[true, false, true, true, false, false, false, false, false, false] rfl rfl (take_ofW HT_.out HW_.out (by kernel_rfl)) (fun _ _ _ h => h) (Or.inl ⟨by rfl, ?_⟩) hHeld ?_ ?_
            rotate_left
            · rintro w' ⟨s0, s1, s2⟩
              go_simp
              with_reducible rfl
            rotate_left
            · simp only [Act.put, List.setIfInBounds_toArray, List.set_cons_zero, List.set_cons_succ, i64_w, i32_w]
              rfl
            refine one_ (i := 1) (N := some 55) #[true, true, true, true, false, false, false, false, false, false] rfl rfl (one_of HT_.out (by kernel_rfl)) (by decide) (fun K hK => ?_)
            refine goes_ Try.func77 (by kernel_rfl) rfl #[.string (⟨#[99, 97, 114, 114, 121]⟩ : ByteArray)] (by rfl) rfl rfl (by (try simp only [List.map_toArray, List.map_cons, List.map_nil]); first | done | rfl | (simp only [List.length_drop, List.length_take]; rfl)) ?_
            with_reducible refine (spec_TableOf.calls k1 (⟨#[99, 97, 114, 114, 121]⟩ : ByteArray) t158 t159 t160 t161 t162 t163 t164 t165 t166 _ A15.out).mono ?_
            rintro e w50 ⟨rfl, hb⟩
            refine ⟨_, rfl, ?_⟩
            have n0_ := Aside0.mk (Kd.R_below (by (with_reducible repeat (first | apply Kd.R_alloc | apply Kd.R_drewN | apply Kd.R_drew)); exact HO153.out) hb)
            have n1_ := Aside0.mk (Kd.R_below (by (with_reducible repeat (first | apply Kd.R_alloc | apply Kd.R_drewN | apply Kd.R_drew)); exact HO156.out) hb)
            have n2_ := Aside0.mk (blk_below (g := gb101) (o := .cells #[.int .i64 0, .slice none 0 0, .slice none 0 0] 35 (0, 0)) (by (with_reducible repeat (first | refine blk_drewN ?_ _ | refine blk_drew ?_ | refine blk_alloc ?_ _)); exact BK101.out) hb)
            have n3_ := Aside0.mk (blk_below (g := gb103) (o := .cells #[.int .i64 t150, .slice Ao44 t151.length co44, .slice Ao46 t154.length co46] 35 (0, 0)) (by (with_reducible repeat (first | refine blk_drewN ?_ _ | refine blk_drew ?_ | refine blk_alloc ?_ _)); exact BK103.out) hb)
            have n4_ := Aside0.mk (below_step (by repeat (first | (with_reducible first | exact HB.out | apply below_alloc | apply pw_below_drewN | apply below_drew1 | refine below_set ?_ GE101.out | refine below_set ?_ GE103.out) | exact HB.out)) hb)
            clear HO153
            clear HO156
            clear BK101
            clear BK103
            clear HB
            have HO153 := n0_
            have HO156 := n1_
            have BK101 := n2_
            have BK103 := n3_
            have HB := n4_
            clear n0_ n1_ n2_ n3_ n4_
            (try clear hb)
            (try clear hb2)
            (try clear hk)
            (try clear hi)
            clear A15
            refine hK.out _ _ ⟨(blk_cell BK103.out 0).trans rfl, (blk_cell BK103.out 1).trans rfl, (blk_cell BK103.out 2).trans rfl⟩ (fun hHeld => ?_)
            clear hK K
            refine norm_ (a' := ?_) ?_ ?_
            rotate_left
            · show Act.put _ (some 55) _ = _
              simp only [Act.put, List.setIfInBounds_toArray, List.set_cons_zero, List.set_cons_succ, i64_w, i32_w]
              rfl
            refine one_ (i := 4) (N := some 58) #[true, true, true, true, true, false, false, false, false, false] rfl rfl (one_of HT_.out (by kernel_rfl)) (by decide) (fun K hK => ?_)
            refine goes_ Try.func76 (by kernel_rfl) rfl #[.agg #[.int .i64 t150, .slice Ao44 t151.length co44, .slice Ao46 t154.length co46], .agg #[.int .i64 t158, .int .i64 t159, .int .i64 t160, .int .i64 t161, .int .i64 t162, .int .i64 t163, .int .i64 t164, .int .i64 t165, .int .i64 t166], .int .i64 t123, .int .i64 x5_1] (by rfl) rfl rfl (by (try simp only [List.map_toArray, List.map_cons, List.map_nil]); first | done | rfl | (simp only [List.length_drop, List.length_take]; rfl)) ?_
            with_reducible refine (spec_l6Gate.calls t150 (fun k_ => some k_ = (.slice Ao44 t151.length co44 : Value).ownBlock) (.slice Ao44 t151.length co44) t151 (fun k_ => some k_ = (.slice Ao46 t154.length co46 : Value).ownBlock) (.slice Ao46 t154.length co46) t154 t158 t159 t160 t161 t162 t163 t164 t165 t166 t123 x5_1 t167 t168 t171 t174 w _ ?side1 ?side2 ?side3 A16.out).mono ?_
            (case side1 => repeat (first | (with_reducible first | exact HB.out | apply below_alloc | apply pw_below_drewN | apply below_drew1 | refine below_set ?_ GE101.out | refine below_set ?_ GE103.out) | exact HB.out))
            (case side2 => exact Kd.R_tight rfl HO153.out)
            (case side3 => exact Kd.R_tight rfl HO156.out)
            rintro e w51 ⟨v169, v172, rfl, ho0, ho1, hb, hkp⟩
            refine ⟨_, rfl, ?_⟩
            have n0_ := Aside0.mk (blk_kept (by (with_reducible repeat (first | refine blk_drewN ?_ _ | refine blk_drew ?_ | refine blk_alloc ?_ _)); exact BK101.out) hkp (fun hs_ => Or.elim hs_ (fun e_ => (fun e_ => (Kd.R_ne HO153.out BK101.out (by decide)) e_) e_) (fun e_ => (fun e_ => (Kd.R_ne HO156.out BK101.out (by decide)) e_) e_)))
            have n1_ := Aside0.mk (blk_kept (by (with_reducible repeat (first | refine blk_drewN ?_ _ | refine blk_drew ?_ | refine blk_alloc ?_ _)); exact BK103.out) hkp (fun hs_ => Or.elim hs_ (fun e_ => (fun e_ => (Kd.R_ne HO153.out BK103.out (by decide)) e_) e_) (fun e_ => (fun e_ => (Kd.R_ne HO156.out BK103.out (by decide)) e_) e_)))
            have n2_ := Aside0.mk (Kd.R_mono (ok' := fun k_ => True) ho0 (fun k_ hk_ => trivial))
            have n3_ := Aside0.mk (Kd.R_mono (ok' := fun k_ => True) ho1 (fun k_ hk_ => trivial))
            have n4_ := Aside0.mk (hb)
            clear BK101
            clear BK103
            clear HB
            clear HO153
            clear HO156
            have BK101 := n0_
            have BK103 := n1_
            have HO170 := n2_
            have HO173 := n3_
            have HB := n4_
            clear n0_ n1_ n2_ n3_ n4_
            (try clear hb)
            (try clear hkp)
            (try clear ho0)
            (try clear ho1)
            obtain ⟨Ao53, co53, eo53⟩ := Kd.R_slice HO170.out
            (first | subst eo53 | (injection eo53 with f1_ f2_ f3_; have f4_ := f1_.symm; have f5_ := f3_.symm; clear f1_ f2_ f3_; subst f4_; subst f5_))
            obtain ⟨Ao55, co55, eo55⟩ := Kd.R_slice HO173.out
            (first | subst eo55 | (injection eo55 with f1_ f2_ f3_; have f4_ := f1_.symm; have f5_ := f3_.symm; clear f1_ f2_ f3_; subst f4_; subst f5_))
            refine hK.out _ _ ⟨(blk_cell BK103.out 0).trans rfl, (blk_cell BK103.out 1).trans rfl, (blk_cell BK103.out 2).trans rfl⟩ (fun hHeld => ?_)
            clear hK K
            refine norm_ (a' := ?_) ?_ ?_
            rotate_left
            · show Act.put _ (some 58) _ = _
              simp only [Act.put, List.setIfInBounds_toArray, List.set_cons_zero, List.set_cons_succ, i64_w, i32_w]
              rfl
            refine pure_ (i := 5) (N := some 53) (v := ?_) (a' := ?_) #[true, true, true, true, true, true, false, false, false, false] rfl rfl (any_of HT_.out (by kernel_rfl)) (fun _ _ _ h => h) (Or.inl ⟨by rfl, ?_⟩) ?_ ?_
            rotate_left
            · intro w'
              go_simp
              with_reducible rfl
            rotate_left
            · simp only [Act.put, List.setIfInBounds_toArray, List.set_cons_zero, List.set_cons_succ, i64_w, i32_w]
              rfl
            refine pure_ (i := 6) (N := some 59) (v := ?_) (a' := ?_) #[true, true, true, true, true, true, true, false, false, false] rfl rfl (any_of HT_.out (by kernel_rfl)) (fun _ _ _ h => h) (Or.inl ⟨by rfl, ?_⟩) ?_ ?_
            rotate_left
            · intro w'
              go_simp
              with_reducible rfl
            rotate_left
            · simp only [Act.put, List.setIfInBounds_toArray, List.set_cons_zero, List.set_cons_succ, i64_w, i32_w]
              rfl
            refine pure_ (i := 7) (N := some 60) (v := ?_) (a' := ?_) #[true, true, true, true, true, true, true, true, false, false] rfl rfl (any_of HT_.out (by kernel_rfl)) (fun _ _ _ h => h) (Or.inl ⟨by rfl, ?_⟩) ?_ ?_
            rotate_left
            · intro w'
              go_simp
              with_reducible rfl
            rotate_left
            · simp only [Act.put, List.setIfInBounds_toArray, List.set_cons_zero, List.set_cons_succ, i64_w, i32_w]
              rfl
            refine last_ (i := 8) (N := none) #[true, true, true, true, true, true, true, true, true, false] rfl rfl (one_of HT_.out (by kernel_rfl)) (by decide) (fun K hK => ?_)
            have hs52 : w51.cell? ⟨gb103, 0, none⟩ = some (.int .i64 t150) := (blk_cell BK103.out 0).trans rfl
            have hfs52 := blk_frozen BK103.out 0
            have hns52_0 := NB101_103.out
            have hms52_0 := NB103_101.out
            have hs54 : w51.cell? ⟨gb103, 1, none⟩ = some (.slice Ao44 t151.length co44) := (blk_cell BK103.out 1).trans rfl
            have hfs54 := blk_frozen BK103.out 1
            have hns54_0 := NB101_103.out
            have hms54_0 := NB103_101.out
            have hs56 : w51.cell? ⟨gb103, 2, none⟩ = some (.slice Ao46 t154.length co46) := (blk_cell BK103.out 2).trans rfl
            have hfs56 := blk_frozen BK103.out 2
            have hns56_0 := NB101_103.out
            have hms56_0 := NB103_101.out
            refine skip_ (w1 := ?_) (by rfl) rfl ?_ ?_
            rotate_left
            · go_simp
              rfl
            refine hK.out _ _ ?_
            clear hK K
            refine pure_ (i := 9) (N := some 10) (v := ?_) (a' := ?_) #[true, true, true, true, true, true, true, true, true, true] rfl rfl (any_of HT_.out (by kernel_rfl)) (fun _ _ _ h => h) (Or.inl ⟨by rfl, ?_⟩) ?_ ?_
            rotate_left
            · intro w'
              go_simp
              with_reducible rfl
            rotate_left
            · simp only [Act.put, List.setIfInBounds_toArray, List.set_cons_zero, List.set_cons_succ, i64_w, i32_w]
              rfl
            refine done_ (done_of HT_.out (by kernel_rfl)) ?_
            try go_wp2
            have n0_ : Aside0 (Kd.R k46 46 (((w51.setCell ⟨gb103, 0, none⟩ (.int .i64 t167)).setCell ⟨gb103, 1, none⟩ (.slice Ao53 t168.length co53)).setCell ⟨gb103, 2, none⟩ (.slice Ao55 t171.length co55)) w.heap.size (fun _ => True) (.slice Ao53 t168.length co53) t168) := ⟨by (with_reducible repeat (first | apply Kd.R_alloc | apply Kd.R_drewN | apply Kd.R_drew)); exact Kd.R_mono (Kd.R_far (p := ⟨gb103, 2, none⟩) (Kd.R_far (p := ⟨gb103, 1, none⟩) (Kd.R_far (p := ⟨gb103, 0, none⟩) (Kd.R_types HO170.out BK103.out (by decide)) (fun _ hk => hk.2) (.int .i64 t167)) (fun _ hk => hk.2) (.slice Ao53 t168.length co53)) (fun _ hk => hk.2) (.slice Ao55 t171.length co55)) (fun _ hk => trivial)⟩
            have n1_ : Aside0 (Kd.R (Kd.int .i64) 3 (((w51.setCell ⟨gb103, 0, none⟩ (.int .i64 t167)).setCell ⟨gb103, 1, none⟩ (.slice Ao53 t168.length co53)).setCell ⟨gb103, 2, none⟩ (.slice Ao55 t171.length co55)) w.heap.size (fun _ => True) (.slice Ao55 t171.length co55) t171) := ⟨by (with_reducible repeat (first | apply Kd.R_alloc | apply Kd.R_drewN | apply Kd.R_drew)); exact Kd.R_mono (Kd.R_far (p := ⟨gb103, 2, none⟩) (Kd.R_far (p := ⟨gb103, 1, none⟩) (Kd.R_far (p := ⟨gb103, 0, none⟩) (Kd.R_types HO173.out BK103.out (by decide)) (fun _ hk => hk.2) (.int .i64 t167)) (fun _ hk => hk.2) (.slice Ao53 t168.length co53)) (fun _ hk => hk.2) (.slice Ao55 t171.length co55)) (fun _ hk => trivial)⟩
            have n2_ : Aside0 ((((w51.setCell ⟨gb103, 0, none⟩ (.int .i64 t167)).setCell ⟨gb103, 1, none⟩ (.slice Ao53 t168.length co53)).setCell ⟨gb103, 2, none⟩ (.slice Ao55 t171.length co55)).heap[gb101]? = some (.cells #[.int .i64 0, .slice none 0 0, .slice none 0 0] 35 (0, 0))) := ⟨by (with_reducible repeat (first | refine blk_drewN ?_ _ | refine blk_drew ?_ | refine blk_alloc ?_ _)); refine blk_far ?_ NB101_103.out _; (with_reducible repeat (first | refine blk_drewN ?_ _ | refine blk_drew ?_ | refine blk_alloc ?_ _)); refine blk_far ?_ NB101_103.out _; (with_reducible repeat (first | refine blk_drewN ?_ _ | refine blk_drew ?_ | refine blk_alloc ?_ _)); refine blk_far ?_ NB101_103.out _; (with_reducible repeat (first | refine blk_drewN ?_ _ | refine blk_drew ?_ | refine blk_alloc ?_ _)); exact BK101.out⟩
            have n3_ : Aside0 ((((w51.setCell ⟨gb103, 0, none⟩ (.int .i64 t167)).setCell ⟨gb103, 1, none⟩ (.slice Ao53 t168.length co53)).setCell ⟨gb103, 2, none⟩ (.slice Ao55 t171.length co55)).heap[gb103]? = some (.cells #[.int .i64 t167, .slice Ao53 t168.length co53, .slice Ao55 t171.length co55] 35 (0, 0))) := ⟨by (with_reducible repeat (first | refine blk_drewN ?_ _ | refine blk_drew ?_ | refine blk_alloc ?_ _)); refine blk_put (cs := #[.int .i64 t167, .slice Ao53 t168.length co53, .slice Ao46 t154.length co46]) ?_ 2 _ rfl; (with_reducible repeat (first | refine blk_drewN ?_ _ | refine blk_drew ?_ | refine blk_alloc ?_ _)); refine blk_put (cs := #[.int .i64 t167, .slice Ao44 t151.length co44, .slice Ao46 t154.length co46]) ?_ 1 _ rfl; (with_reducible repeat (first | refine blk_drewN ?_ _ | refine blk_drew ?_ | refine blk_alloc ?_ _)); refine blk_put (cs := #[.int .i64 t150, .slice Ao44 t151.length co44, .slice Ao46 t154.length co46]) ?_ 0 _ rfl; (with_reducible repeat (first | refine blk_drewN ?_ _ | refine blk_drew ?_ | refine blk_alloc ?_ _)); exact BK103.out⟩
            have n4_ : Aside0 (Below w.heap.size w (((w51.setCell ⟨gb103, 0, none⟩ (.int .i64 t167)).setCell ⟨gb103, 1, none⟩ (.slice Ao53 t168.length co53)).setCell ⟨gb103, 2, none⟩ (.slice Ao55 t171.length co55))) := ⟨by repeat (first | (with_reducible first | exact HB.out | apply below_alloc | apply pw_below_drewN | apply below_drew1 | refine below_set ?_ GE101.out | refine below_set ?_ GE103.out) | exact HB.out)⟩
            (try clear HO170)
            (try clear HO173)
            (try clear BK101)
            (try clear BK103)
            (try clear HB)
            generalize (((w51.setCell ⟨gb103, 0, none⟩ (.int .i64 t167)).setCell ⟨gb103, 1, none⟩ (.slice Ao53 t168.length co53)).setCell ⟨gb103, 2, none⟩ (.slice Ao55 t171.length co55)) = w57 at n0_ n1_ n2_ n3_ n4_ ⊢
            have HO170 := n0_
            have HO173 := n1_
            have BK101 := n2_
            have BK103 := n3_
            have HB := n4_
            clear n0_ n1_ n2_ n3_ n4_
            have n0_ := Aside0.mk (Kd.R_drew HO170.out)
            have n1_ := Aside0.mk (Kd.R_drew HO173.out)
            have n2_ := Aside0.mk (blk_drew BK101.out)
            have n3_ := Aside0.mk (blk_drew BK103.out)
            have n4_ := Aside0.mk (below_drew1 HB.out)
            clear HO170
            clear HO173
            clear BK101
            clear BK103
            clear HB
            have HO170 := n0_
            have HO173 := n1_
            have BK101 := n2_
            have BK103 := n3_
            have HB := n4_
            clear n0_ n1_ n2_ n3_ n4_
            refine start_ (n := 10) (S := fun w' => w'.cell? ⟨gb103, 0, none⟩ = some (.int .i64 t167) ∧ w'.cell? ⟨gb103, 1, none⟩ = some (.slice Ao53 t168.length co53) ∧ w'.cell? ⟨gb103, 2, none⟩ = some (.slice Ao55 t171.length co55)) (ds := [8]) #[false, false, false, false, false, false, false, false, false, false] (by kernel_rfl) rfl rfl ⟨(blk_cell BK103.out 0).trans rfl, (blk_cell BK103.out 1).trans rfl, (blk_cell BK103.out 2).trans rfl⟩ (fun hHeld => ?_); refine with_tabW spec_AdderCircuit.tab14 spec_AdderCircuit.bits14 (fun HT_ HW_ => ?_)
            generalize w57.drew = w58 at HO170 HO173 BK101 BK103 HB hHeld ⊢
            refine pure_ (i := 2) (N := some 64) (v := ?_) (a' := ?_) #[false, false, true, false, false, false, false, false, false, false] rfl rfl (any_of HT_.out (by kernel_rfl)) (fun _ _ _ h => h) (Or.inl ⟨by rfl, ?_⟩) ?_ ?_
            rotate_left
            · intro w'
              go_simp
              with_reducible rfl
            rotate_left
            · simp only [Act.put, List.setIfInBounds_toArray, List.set_cons_zero, List.set_cons_succ, i64_w, i32_w]
              rfl
            refine pure_ (i := 3) (N := some 65) (v := ?_) (a' := ?_) #[false, false, true, true, false, false, false, false, false, false] rfl rfl (any_of HT_.out (by kernel_rfl)) (fun _ _ _ h => h) (Or.inl ⟨by rfl, ?_⟩) ?_ ?_
            rotate_left
            · intro w'
              go_simp
              with_reducible rfl
            rotate_left
            · simp only [Act.put, List.setIfInBounds_toArray, List.set_cons_zero, List.set_cons_succ, i64_w, i32_w]
              rfl
            refine take_ (i := 0) (N := some 62) (v := ?_) (a' := ?_) #[true, false, true, true, false, false, false, false, false, false] rfl rfl (take_ofW HT_.out HW_.out (by kernel_rfl)) (fun _ _ _ h => h) (Or.inl ⟨by rfl, ?_⟩) hHeld ?_ ?_
            rotate_left
            · rintro w' ⟨s0, s1, s2⟩
              go_simp
              with_reducible rfl
            rotate_left
            · simp only [Act.put, List.setIfInBounds_toArray, List.set_cons_zero, List.set_cons_succ, i64_w, i32_w]
              rfl
            refine one_ (i := 1) (N := some 63) #[true, true, true, true, false, false, false, false, false, false] rfl rfl (one_of HT_.out (by kernel_rfl)) (by decide) (fun K hK => ?_)
            refine goes_ Try.func77 (by kernel_rfl) rfl #[.string (⟨#[97, 110, 121]⟩ : ByteArray)] (by rfl) rfl rfl (by (try simp only [List.map_toArray, List.map_cons, List.map_nil]); first | done | rfl | (simp only [List.length_drop, List.length_take]; rfl)) ?_
            with_reducible refine (spec_TableOf.calls k1 (⟨#[97, 110, 121]⟩ : ByteArray) t175 t176 t177 t178 t179 t180 t181 t182 t183 _ A17.out).mono ?_
            rintro e w59 ⟨rfl, hb⟩
            refine ⟨_, rfl, ?_⟩
            have n0_ := Aside0.mk (Kd.R_below (by (with_reducible repeat (first | apply Kd.R_alloc | apply Kd.R_drewN | apply Kd.R_drew)); exact HO170.out) hb)
            have n1_ := Aside0.mk (Kd.R_below (by (with_reducible repeat (first | apply Kd.R_alloc | apply Kd.R_drewN | apply Kd.R_drew)); exact HO173.out) hb)
            have n2_ := Aside0.mk (blk_below (g := gb101) (o := .cells #[.int .i64 0, .slice none 0 0, .slice none 0 0] 35 (0, 0)) (by (with_reducible repeat (first | refine blk_drewN ?_ _ | refine blk_drew ?_ | refine blk_alloc ?_ _)); exact BK101.out) hb)
            have n3_ := Aside0.mk (blk_below (g := gb103) (o := .cells #[.int .i64 t167, .slice Ao53 t168.length co53, .slice Ao55 t171.length co55] 35 (0, 0)) (by (with_reducible repeat (first | refine blk_drewN ?_ _ | refine blk_drew ?_ | refine blk_alloc ?_ _)); exact BK103.out) hb)
            have n4_ := Aside0.mk (below_step (by repeat (first | (with_reducible first | exact HB.out | apply below_alloc | apply pw_below_drewN | apply below_drew1 | refine below_set ?_ GE101.out | refine below_set ?_ GE103.out) | exact HB.out)) hb)
            clear HO170
            clear HO173
            clear BK101
            clear BK103
            clear HB
            have HO170 := n0_
            have HO173 := n1_
            have BK101 := n2_
            have BK103 := n3_
            have HB := n4_
            clear n0_ n1_ n2_ n3_ n4_
            (try clear hb)
            (try clear hb2)
            (try clear hk)
            (try clear hi)
            refine hK.out _ _ ⟨(blk_cell BK103.out 0).trans rfl, (blk_cell BK103.out 1).trans rfl, (blk_cell BK103.out 2).trans rfl⟩ (fun hHeld => ?_)
            clear hK K
            refine norm_ (a' := ?_) ?_ ?_
            rotate_left
            · show Act.put _ (some 63) _ = _
              simp only [Act.put, List.setIfInBounds_toArray, List.set_cons_zero, List.set_cons_succ, i64_w, i32_w]
              rfl
            refine one_ (i := 4) (N := some 66) #[true, true, true, true, true, false, false, false, false, false] rfl rfl (one_of HT_.out (by kernel_rfl)) (by decide) (fun K hK => ?_)
            refine goes_ Try.func76 (by kernel_rfl) rfl #[.agg #[.int .i64 t167, .slice Ao53 t168.length co53, .slice Ao55 t171.length co55], .agg #[.int .i64 t175, .int .i64 t176, .int .i64 t177, .int .i64 t178, .int .i64 t179, .int .i64 t180, .int .i64 t181, .int .i64 t182, .int .i64 t183], .int .i64 t140, .int .i64 t174] (by rfl) rfl rfl (by (try simp only [List.map_toArray, List.map_cons, List.map_nil]); first | done | rfl | (simp only [List.length_drop, List.length_take]; rfl)) ?_
            with_reducible refine (spec_l6Gate.calls t167 (fun k_ => some k_ = (.slice Ao53 t168.length co53 : Value).ownBlock) (.slice Ao53 t168.length co53) t168 (fun k_ => some k_ = (.slice Ao55 t171.length co55 : Value).ownBlock) (.slice Ao55 t171.length co55) t171 t175 t176 t177 t178 t179 t180 t181 t182 t183 t140 t174 t184 t185 t188 t191 w _ ?side1 ?side2 ?side3 A18.out).mono ?_
            (case side1 => repeat (first | (with_reducible first | exact HB.out | apply below_alloc | apply pw_below_drewN | apply below_drew1 | refine below_set ?_ GE101.out | refine below_set ?_ GE103.out) | exact HB.out))
            (case side2 => exact Kd.R_tight rfl HO170.out)
            (case side3 => exact Kd.R_tight rfl HO173.out)
            rintro e w60 ⟨v186, v189, rfl, ho0, ho1, hb, hkp⟩
            refine ⟨_, rfl, ?_⟩
            have n0_ := Aside0.mk (blk_kept (by (with_reducible repeat (first | refine blk_drewN ?_ _ | refine blk_drew ?_ | refine blk_alloc ?_ _)); exact BK101.out) hkp (fun hs_ => Or.elim hs_ (fun e_ => (fun e_ => (Kd.R_ne HO170.out BK101.out (by decide)) e_) e_) (fun e_ => (fun e_ => (Kd.R_ne HO173.out BK101.out (by decide)) e_) e_)))
            have n1_ := Aside0.mk (blk_kept (by (with_reducible repeat (first | refine blk_drewN ?_ _ | refine blk_drew ?_ | refine blk_alloc ?_ _)); exact BK103.out) hkp (fun hs_ => Or.elim hs_ (fun e_ => (fun e_ => (Kd.R_ne HO170.out BK103.out (by decide)) e_) e_) (fun e_ => (fun e_ => (Kd.R_ne HO173.out BK103.out (by decide)) e_) e_)))
            have n2_ := Aside0.mk (Kd.R_mono (ok' := fun k_ => True) ho0 (fun k_ hk_ => trivial))
            have n3_ := Aside0.mk (Kd.R_mono (ok' := fun k_ => True) ho1 (fun k_ hk_ => trivial))
            have n4_ := Aside0.mk (hb)
            clear BK101
            clear BK103
            clear HB
            clear HO170
            clear HO173
            have BK101 := n0_
            have BK103 := n1_
            have HO187 := n2_
            have HO190 := n3_
            have HB := n4_
            clear n0_ n1_ n2_ n3_ n4_
            (try clear hb)
            (try clear hkp)
            (try clear ho0)
            (try clear ho1)
            obtain ⟨Ao62, co62, eo62⟩ := Kd.R_slice HO187.out
            (first | subst eo62 | (injection eo62 with f1_ f2_ f3_; have f4_ := f1_.symm; have f5_ := f3_.symm; clear f1_ f2_ f3_; subst f4_; subst f5_))
            obtain ⟨Ao64, co64, eo64⟩ := Kd.R_slice HO190.out
            (first | subst eo64 | (injection eo64 with f1_ f2_ f3_; have f4_ := f1_.symm; have f5_ := f3_.symm; clear f1_ f2_ f3_; subst f4_; subst f5_))
            refine hK.out _ _ ⟨(blk_cell BK103.out 0).trans rfl, (blk_cell BK103.out 1).trans rfl, (blk_cell BK103.out 2).trans rfl⟩ (fun hHeld => ?_)
            clear hK K
            refine norm_ (a' := ?_) ?_ ?_
            rotate_left
            · show Act.put _ (some 66) _ = _
              simp only [Act.put, List.setIfInBounds_toArray, List.set_cons_zero, List.set_cons_succ, i64_w, i32_w]
              rfl
            refine pure_ (i := 5) (N := some 61) (v := ?_) (a' := ?_) #[true, true, true, true, true, true, false, false, false, false] rfl rfl (any_of HT_.out (by kernel_rfl)) (fun _ _ _ h => h) (Or.inl ⟨by rfl, ?_⟩) ?_ ?_
            rotate_left
            · intro w'
              go_simp
              with_reducible rfl
            rotate_left
            · simp only [Act.put, List.setIfInBounds_toArray, List.set_cons_zero, List.set_cons_succ, i64_w, i32_w]
              rfl
            refine pure_ (i := 6) (N := some 67) (v := ?_) (a' := ?_) #[true, true, true, true, true, true, true, false, false, false] rfl rfl (any_of HT_.out (by kernel_rfl)) (fun _ _ _ h => h) (Or.inl ⟨by rfl, ?_⟩) ?_ ?_
            rotate_left
            · intro w'
              go_simp
              with_reducible rfl
            rotate_left
            · simp only [Act.put, List.setIfInBounds_toArray, List.set_cons_zero, List.set_cons_succ, i64_w, i32_w]
              rfl
            refine pure_ (i := 7) (N := some 68) (v := ?_) (a' := ?_) #[true, true, true, true, true, true, true, true, false, false] rfl rfl (any_of HT_.out (by kernel_rfl)) (fun _ _ _ h => h) (Or.inl ⟨by rfl, ?_⟩) ?_ ?_
            rotate_left
            · intro w'
              go_simp
              with_reducible rfl
            rotate_left
            · simp only [Act.put, List.setIfInBounds_toArray, List.set_cons_zero, List.set_cons_succ, i64_w, i32_w]
              rfl
            refine last_ (i := 8) (N := none) #[true, true, true, true, true, true, true, true, true, false] rfl rfl (one_of HT_.out (by kernel_rfl)) (by decide) (fun K hK => ?_)
            have hs61 : w60.cell? ⟨gb103, 0, none⟩ = some (.int .i64 t167) := (blk_cell BK103.out 0).trans rfl
            have hfs61 := blk_frozen BK103.out 0
            have hns61_0 := NB101_103.out
            have hms61_0 := NB103_101.out
            have hs63 : w60.cell? ⟨gb103, 1, none⟩ = some (.slice Ao53 t168.length co53) := (blk_cell BK103.out 1).trans rfl
            have hfs63 := blk_frozen BK103.out 1
            have hns63_0 := NB101_103.out
            have hms63_0 := NB103_101.out
            have hs65 : w60.cell? ⟨gb103, 2, none⟩ = some (.slice Ao55 t171.length co55) := (blk_cell BK103.out 2).trans rfl
            have hfs65 := blk_frozen BK103.out 2
            have hns65_0 := NB101_103.out
            have hms65_0 := NB103_101.out
            refine skip_ (w1 := ?_) (by rfl) rfl ?_ ?_
            rotate_left
            · go_simp
              rfl
            refine hK.out _ _ ?_
            clear hK K
            refine pure_ (i := 9) (N := some 5) (v := ?_) (a' := ?_) #[true, true, true, true, true, true, true, true, true, true] rfl rfl (any_of HT_.out (by kernel_rfl)) (fun _ _ _ h => h) (Or.inl ⟨by rfl, ?_⟩) ?_ ?_
            rotate_left
            · intro w'
              go_simp
              with_reducible rfl
            rotate_left
            · simp only [Act.put, List.setIfInBounds_toArray, List.set_cons_zero, List.set_cons_succ, i64_w, i32_w]
              rfl
            refine done_ (done_of HT_.out (by kernel_rfl)) ?_
            have hnb66 := NB103_101.out
            have hnc66 := NB101_103.out
            have hcz67_0 : w60.cell? ⟨gb103, 0, none⟩ = some (.int .i64 t167) := (blk_cell BK103.out 0).trans rfl
            have hcz67_1 : w60.cell? ⟨gb103, 1, none⟩ = some (.slice Ao53 t168.length co53) := (blk_cell BK103.out 1).trans rfl
            have hcz67_2 : w60.cell? ⟨gb103, 2, none⟩ = some (.slice Ao55 t171.length co55) := (blk_cell BK103.out 2).trans rfl
            have hfz67_0 := blk_frozen BK103.out 0
            have hfz67_1 := blk_frozen BK103.out 1
            have hfz67_2 := blk_frozen BK103.out 2
            try go_wp2_with (first | ((with_reducible refine gate_builtin (b := .append) (xs := #[.tmp 70, .tmp 72]) rfl ?_); at_builtin; refine Kd.R_append (Kd.int .i64) (w0 := w) w.heap.size rfl (.tmp 70) (.tmp 72) 28 3 (.int .i64 0) 8 rfl Try.underlying28 info3 rfl (by decide) (by omega) (.slice Ao64 t188.length co64) t188 t157 [.int .i64 t157] (fun _ => True) (fun _ => False) rfl (by first | (go_simp; done) | (go_simp; rfl)) ?aP (fun _ hk => hk.elim) ?aF ?aO ?aB ?aS ?aL ?_; (case aP => exact rfl); (case aB => exact (by repeat (first | (with_reducible first | exact HB.out | apply below_alloc | apply pw_below_drewN | apply below_drew1 | refine below_set ?_ GE101.out | refine below_set ?_ GE103.out) | exact HB.out))); (case aF => exact (fun _ _ => trivial)); (case aO => exact (by (with_reducible repeat (first | apply Kd.R_alloc | apply Kd.R_drewN | apply Kd.R_drew)); exact Kd.R_mono (Kd.R_far (p := ⟨gb103, 2, none⟩) (Kd.R_far (p := ⟨gb103, 1, none⟩) (Kd.R_far (p := ⟨gb103, 0, none⟩) (Kd.R_types HO190.out BK103.out (by decide)) (fun _ hk => hk.2) (.int .i64 t184)) (fun _ hk => hk.2) (.slice Ao62 t185.length co62)) (fun _ hk => hk.2) (.slice Ao64 t188.length co64)) (fun _ hk => trivial))); (case aS => exact (below_size (by repeat (first | (with_reducible first | exact HB.out | apply below_alloc | apply pw_below_drewN | apply below_drew1 | refine below_set ?_ GE101.out | refine below_set ?_ GE103.out) | exact HB.out)))); (case aL => have := LMc19.out; omega); intro v193 w68 ho hb hg hat; rw [← Ny192.out] at ho; have n0_ := Aside0.mk (blk_grown (g := gb101) (o := .cells #[.int .i64 0, .slice none 0 0, .slice none 0 0] 35 (0, 0)) (by (with_reducible repeat (first | refine blk_drewN ?_ _ | refine blk_drew ?_ | refine blk_alloc ?_ _)); refine blk_far ?_ NB101_103.out _; (with_reducible repeat (first | refine blk_drewN ?_ _ | refine blk_drew ?_ | refine blk_alloc ?_ _)); refine blk_far ?_ NB101_103.out _; (with_reducible repeat (first | refine blk_drewN ?_ _ | refine blk_drew ?_ | refine blk_alloc ?_ _)); refine blk_far ?_ NB101_103.out _; (with_reducible repeat (first | refine blk_drewN ?_ _ | refine blk_drew ?_ | refine blk_alloc ?_ _)); exact BK101.out) hg (Kd.R_ne HO190.out BK101.out (by decide))); have n1_ := Aside0.mk (blk_grown (g := gb103) (o := .cells #[.int .i64 t184, .slice Ao62 t185.length co62, .slice Ao64 t188.length co64] 35 (0, 0)) (by (with_reducible repeat (first | refine blk_drewN ?_ _ | refine blk_drew ?_ | refine blk_alloc ?_ _)); refine blk_put (cs := #[.int .i64 t184, .slice Ao62 t185.length co62, .slice Ao55 t171.length co55]) ?_ 2 _ rfl; (with_reducible repeat (first | refine blk_drewN ?_ _ | refine blk_drew ?_ | refine blk_alloc ?_ _)); refine blk_put (cs := #[.int .i64 t184, .slice Ao53 t168.length co53, .slice Ao55 t171.length co55]) ?_ 1 _ rfl; (with_reducible repeat (first | refine blk_drewN ?_ _ | refine blk_drew ?_ | refine blk_alloc ?_ _)); refine blk_put (cs := #[.int .i64 t167, .slice Ao53 t168.length co53, .slice Ao55 t171.length co55]) ?_ 0 _ rfl; (with_reducible repeat (first | refine blk_drewN ?_ _ | refine blk_drew ?_ | refine blk_alloc ?_ _)); exact BK103.out) hg (Kd.R_ne HO190.out BK103.out (by decide))); have n2_ := Aside0.mk (Kd.R_over' (by (with_reducible repeat (first | apply Kd.R_alloc | apply Kd.R_drewN | apply Kd.R_drew)); exact (Kd.R_mono (Kd.R_far (p := ⟨gb103, 2, none⟩) (Kd.R_far (p := ⟨gb103, 1, none⟩) (Kd.R_far (p := ⟨gb103, 0, none⟩) (Kd.R_types HO187.out BK103.out (by decide)) (fun _ hk => hk.2) (.int .i64 t184)) (fun _ hk => hk.2) (.slice Ao62 t185.length co62)) (fun _ hk => hk.2) (.slice Ao64 t188.length co64)) (fun _ h_ => h_.1))) (Kd.R_typed (by (with_reducible repeat (first | apply Kd.R_alloc | apply Kd.R_drewN | apply Kd.R_drew)); exact (Kd.R_mono (Kd.R_far (p := ⟨gb103, 2, none⟩) (Kd.R_far (p := ⟨gb103, 1, none⟩) (Kd.R_far (p := ⟨gb103, 0, none⟩) (Kd.R_types HO190.out BK103.out (by decide)) (fun _ hk => hk.2) (.int .i64 t184)) (fun _ hk => hk.2) (.slice Ao62 t185.length co62)) (fun _ hk => hk.2) (.slice Ao64 t188.length co64)) (fun _ h_ => h_.1)))) (by decide) hg); have n3_ := Aside0.mk (hb); have n4_ := Aside0.mk (ho); clear BK101; clear BK103; clear HO187; clear HB; clear HO190; have BK101 := n0_; have BK103 := n1_; have HO187 := n2_; have HB := n3_; have HO194 := n4_; clear n0_ n1_ n2_ n3_ n4_; clear ho hb hg hat; obtain ⟨Ao69, co69, eo69⟩ := Kd.R_slice HO194.out; subst eo69; have hcz70_0 : w68.cell? ⟨gb103, 0, none⟩ = some (.int .i64 t184) := (blk_cell BK103.out 0).trans rfl; have hcz70_1 : w68.cell? ⟨gb103, 1, none⟩ = some (.slice Ao62 t185.length co62) := (blk_cell BK103.out 1).trans rfl; have hcz70_2 : w68.cell? ⟨gb103, 2, none⟩ = some (.slice Ao64 t188.length co64) := (blk_cell BK103.out 2).trans rfl; have hfz70_0 := blk_frozen BK103.out 0; have hfz70_1 := blk_frozen BK103.out 1; have hfz70_2 := blk_frozen BK103.out 2))
            go_roundg k1
            case measure => have := HK1.out; omega
            case rel => exact ⟨(t191), (wrap64 (x6_1 + 1)), (t184), (t185), (y192), (.slice Ao62 t185.length co62), (.slice Ao69 y192.length co69), (by first | rfl | (simp; done) | (simp [*]; done)), (by first | rfl | (simp; done) | (simp [*]; done)), H', ⟨by have := HK1.out; omega⟩, ⟨by (with_reducible repeat (first | apply Kd.R_alloc | apply Kd.R_drewN | apply Kd.R_drew)); exact Kd.R_mono (Kd.R_far (p := ⟨gb103, 2, none⟩) (Kd.R_types HO187.out BK103.out (by decide)) (fun _ hk => hk.2) (.slice Ao69 y192.length co69)) (fun _ hk => trivial)⟩, ⟨by (with_reducible repeat (first | apply Kd.R_alloc | apply Kd.R_drewN | apply Kd.R_drew)); exact Kd.R_mono (Kd.R_far (p := ⟨gb103, 2, none⟩) (Kd.R_types HO194.out BK103.out (by decide)) (fun _ hk => hk.2) (.slice Ao69 y192.length co69)) (fun _ hk => trivial)⟩, ⟨by (with_reducible repeat (first | refine blk_drewN ?_ _ | refine blk_drew ?_ | refine blk_alloc ?_ _)); refine blk_far ?_ NB101_103.out _; (with_reducible repeat (first | refine blk_drewN ?_ _ | refine blk_drew ?_ | refine blk_alloc ?_ _)); exact BK101.out⟩, ⟨by (with_reducible repeat (first | refine blk_drewN ?_ _ | refine blk_drew ?_ | refine blk_alloc ?_ _)); refine blk_put (cs := #[.int .i64 t184, .slice Ao62 t185.length co62, .slice Ao64 t188.length co64]) ?_ 2 _ rfl; (with_reducible repeat (first | refine blk_drewN ?_ _ | refine blk_drew ?_ | refine blk_alloc ?_ _)); exact BK103.out⟩, ⟨by repeat (first | (with_reducible first | exact HB.out | apply below_alloc | apply pw_below_drewN | apply below_drew1 | refine below_set ?_ GE101.out | refine below_set ?_ GE103.out) | exact HB.out)⟩⟩
          · rw [if_neg c19] at H
            exact absurd H (by simp)
        · rw [if_neg c8] at H
          have c8b0 : decide (x6_1 < a0) = false := decide_eq_false c8
          clear c8
          by_cases c71 : x104002_1.length < 17592186044416
          · rw [if_pos c71] at H
            have LMc71 := Aside0.mk c71
            clear c71
            obtain ⟨y104, hy104⟩ : ∃ y_ : List Int, y_ = (x104002_1 ++ [x5_1]) := ⟨_, rfl⟩
            replace H : (some (x104000_1, x104001_1, y104, true)) = some (r1, r2, r3, r4) := by first | (rw [hy104]; with_reducible exact H) | (have H2_ := (Option.bind_some _ _).symm.trans H; rw [hy104]; with_reducible exact H2_) | (have H2_ := (Option.bind_some _ _).symm.trans H; with_reducible exact H2_) | with_reducible exact H | (rw [hy104]; exact H) | exact H
            have Ny104 := Aside0.mk hy104
            clear hy104
            simp only [Option.some.injEq, Prod.mk.injEq] at H
            obtain ⟨rfl, rfl, rfl, rfl⟩ := H
            have hnb72 := NB103_101.out
            have hnc72 := NB101_103.out
            have hcz73_0 : wr.cell? ⟨gb103, 0, none⟩ = some (.int .i64 x104000_1) := (blk_cell BK103.out 0).trans rfl
            have hcz73_1 : wr.cell? ⟨gb103, 1, none⟩ = some (u104001) := (blk_cell BK103.out 1).trans rfl
            have hcz73_2 : wr.cell? ⟨gb103, 2, none⟩ = some (u104002) := (blk_cell BK103.out 2).trans rfl
            have hfz73_0 := blk_frozen BK103.out 0
            have hfz73_1 := blk_frozen BK103.out 1
            have hfz73_2 := blk_frozen BK103.out 2
            go_wp2_with (first | ((with_reducible refine gate_builtin (b := .append) (xs := #[.tmp 76, .tmp 78]) rfl ?_); at_builtin; refine Kd.R_append (Kd.int .i64) (w0 := w) w.heap.size rfl (.tmp 76) (.tmp 78) 28 3 (.int .i64 0) 8 rfl Try.underlying28 info3 rfl (by decide) (by omega) u104002 x104002_1 x5_1 [.int .i64 x5_1] (fun _ => True) (fun _ => False) rfl rfl ?aP (fun _ hk => hk.elim) ?aF ?aO ?aB ?aS ?aL ?_; (case aP => exact rfl); (case aB => exact (by repeat (first | (with_reducible first | exact HB.out | apply below_alloc | apply pw_below_drewN | apply below_drew1 | refine below_set ?_ GE101.out | refine below_set ?_ GE103.out) | exact HB.out))); (case aF => exact (fun _ _ => trivial)); (case aO => exact (by (with_reducible repeat (first | apply Kd.R_alloc | apply Kd.R_drewN | apply Kd.R_drew)); exact HO_104002.out)); (case aS => exact (below_size (by repeat (first | (with_reducible first | exact HB.out | apply below_alloc | apply pw_below_drewN | apply below_drew1 | refine below_set ?_ GE101.out | refine below_set ?_ GE103.out) | exact HB.out)))); (case aL => have := LMc71.out; omega); intro v105 w74 ho hb hg hat; rw [← Ny104.out] at ho; have n0_ := Aside0.mk (Kd.R_over' (by (with_reducible repeat (first | apply Kd.R_alloc | apply Kd.R_drewN | apply Kd.R_drew)); exact HO_104001.out) (Kd.R_typed (by (with_reducible repeat (first | apply Kd.R_alloc | apply Kd.R_drewN | apply Kd.R_drew)); exact HO_104002.out)) (by decide) hg); have n1_ := Aside0.mk (blk_grown (g := gb101) (o := .cells #[.int .i64 0, .slice none 0 0, .slice none 0 0] 35 (0, 0)) (by (with_reducible repeat (first | refine blk_drewN ?_ _ | refine blk_drew ?_ | refine blk_alloc ?_ _)); exact BK101.out) hg (Kd.R_ne HO_104002.out BK101.out (by decide))); have n2_ := Aside0.mk (blk_grown (g := gb103) (o := .cells #[.int .i64 x104000_1, u104001, u104002] 35 (0, 0)) (by (with_reducible repeat (first | refine blk_drewN ?_ _ | refine blk_drew ?_ | refine blk_alloc ?_ _)); exact BK103.out) hg (Kd.R_ne HO_104002.out BK103.out (by decide))); have n3_ := Aside0.mk (hb); have n4_ := Aside0.mk (ho); clear HO_104001; clear BK101; clear BK103; clear HB; clear HO_104002; have HO_104001 := n0_; have BK101 := n1_; have BK103 := n2_; have HB := n3_; have HO106 := n4_; clear n0_ n1_ n2_ n3_ n4_; clear ho hb hg hat; obtain ⟨Ao75, co75, eo75⟩ := Kd.R_slice HO106.out; subst eo75; have hcz76_0 : w74.cell? ⟨gb103, 0, none⟩ = some (.int .i64 x104000_1) := (blk_cell BK103.out 0).trans rfl; have hcz76_1 : w74.cell? ⟨gb103, 1, none⟩ = some (u104001) := (blk_cell BK103.out 1).trans rfl; have hcz76_2 : w74.cell? ⟨gb103, 2, none⟩ = some (u104002) := (blk_cell BK103.out 2).trans rfl; have hfz76_0 := blk_frozen BK103.out 0; have hfz76_1 := blk_frozen BK103.out 1; have hfz76_2 := blk_frozen BK103.out 2; have hcz77_0 : w74.cell? ⟨gb101, 0, none⟩ = some (.int .i64 0) := (blk_cell BK101.out 0).trans rfl; have hcz77_1 : w74.cell? ⟨gb101, 1, none⟩ = some (.slice none 0 0) := (blk_cell BK101.out 1).trans rfl; have hcz77_2 : w74.cell? ⟨gb101, 2, none⟩ = some (.slice none 0 0) := (blk_cell BK101.out 2).trans rfl; have hfz77_0 := blk_frozen BK101.out 0; have hfz77_1 := blk_frozen BK101.out 1; have hfz77_2 := blk_frozen BK101.out 2; obtain ⟨Ao78, co78, eo78⟩ := Kd.R_slice HO_104001.out; subst eo78))
            refine bodyPost_ret (results_ct rfl _ _ gb101 35 #[.int .i64 x104000_1, .slice Ao78 x104001_1.length co78, .slice Ao75 y104.length co75] (0, 0) _ rfl (by (with_reducible repeat (first | refine blk_drewN ?_ _ | refine blk_drew ?_ | refine blk_alloc ?_ _)); refine blk_put (cs := #[.int .i64 x104000_1, .slice Ao78 x104001_1.length co78, .slice none 0 0]) ?_ 2 _ rfl; (with_reducible repeat (first | refine blk_drewN ?_ _ | refine blk_drew ?_ | refine blk_alloc ?_ _)); refine blk_put (cs := #[.int .i64 x104000_1, .slice none 0 0, .slice none 0 0]) ?_ 1 _ rfl; (with_reducible repeat (first | refine blk_drewN ?_ _ | refine blk_drew ?_ | refine blk_alloc ?_ _)); refine blk_put (cs := #[.int .i64 0, .slice none 0 0, .slice none 0 0]) ?_ 0 _ rfl; (with_reducible repeat (first | refine blk_drewN ?_ _ | refine blk_drew ?_ | refine blk_alloc ?_ _)); refine blk_far ?_ NB101_103.out _; (with_reducible repeat (first | refine blk_drewN ?_ _ | refine blk_drew ?_ | refine blk_alloc ?_ _)); exact BK101.out) Try.underlying35 rfl (by kernel_rfl)) rfl ?_
            exact ⟨_, _, by first | rfl | (simp [errW_none, errW_some] <;> rfl) | (simp [*, errW_none, errW_some] <;> rfl), by (with_reducible repeat (first | apply Kd.R_alloc | apply Kd.R_drewN | apply Kd.R_drew)); exact Kd.R_mono (Kd.R_far (p := ⟨gb101, 2, none⟩) (Kd.R_far (p := ⟨gb101, 1, none⟩) (Kd.R_far (p := ⟨gb101, 0, none⟩) (Kd.R_far (p := ⟨gb103, 2, none⟩) (Kd.R_types (Kd.R_types HO_104001.out BK103.out (by decide)) BK101.out (by decide)) (fun _ hk => hk.1.2) (.slice Ao75 y104.length co75)) (fun _ hk => hk.2) (.int .i64 x104000_1)) (fun _ hk => hk.2) (.slice Ao78 x104001_1.length co78)) (fun _ hk => hk.2) (.slice Ao75 y104.length co75)) (fun _ hk => trivial), by (with_reducible repeat (first | apply Kd.R_alloc | apply Kd.R_drewN | apply Kd.R_drew)); exact Kd.R_mono (Kd.R_far (p := ⟨gb101, 2, none⟩) (Kd.R_far (p := ⟨gb101, 1, none⟩) (Kd.R_far (p := ⟨gb101, 0, none⟩) (Kd.R_far (p := ⟨gb103, 2, none⟩) (Kd.R_types (Kd.R_types HO106.out BK103.out (by decide)) BK101.out (by decide)) (fun _ hk => hk.1.2) (.slice Ao75 y104.length co75)) (fun _ hk => hk.2) (.int .i64 x104000_1)) (fun _ hk => hk.2) (.slice Ao78 x104001_1.length co78)) (fun _ hk => hk.2) (.slice Ao75 y104.length co75)) (fun _ hk => trivial), by repeat (first | (with_reducible first | exact HB.out | apply below_alloc | apply pw_below_drewN | apply below_drew1 | refine below_set ?_ GE101.out | refine below_set ?_ GE103.out) | exact HB.out)⟩
          · rw [if_neg c71] at H
            exact absurd H (by simp)
  · replace c3 := Bool.eq_false_iff.mpr c3
    subst c3
    have H1 : (some (0, ([] : List (S46)), ([] : List Int), false)) = some (r1, r2, r3, r4) := by rw [if_neg (show ¬ (false = true) by decide)] at H; exact H
    clear H
    have H := H1
    clear H1
    simp only [Option.some.injEq, Prod.mk.injEq] at H
    obtain ⟨rfl, rfl, rfl, rfl⟩ := H
    go_enter Try.func42, Try.ntmps42
    go_wp2_with (first | ((with_reducible refine gate_dst (N := 2) rfl ?_); refine box_event ?hg (N := 2) ?hd (cs := #[.int .i64 0, .slice none 0 0, .slice none 0 0]) (t := 35) ?hr ?_; (case hd => rfl); (case hg => rfl); (case hr => first | (go_simp; done) | (go_simp; rfl)); intro gb101 hg w79 hbox hb; have n0_ := Aside0.mk (below_step (by repeat (first | (with_reducible first | exact HB.out | apply below_alloc | apply pw_below_drewN | apply below_drew1) | exact HB.out)) hb); have n1_ := Aside0.mk (hbox); have n2_ := Aside0.mk ((by rw [hg]; exact (below_size (by repeat (first | (with_reducible first | exact HB.out | apply below_alloc | apply pw_below_drewN | apply below_drew1) | exact HB.out))) : w.heap.size ≤ gb101)); have n3_ := Aside0.mk ((by rw [hg]; exact (below_size (by repeat (first | (with_reducible first | exact HB.out | apply below_alloc | apply pw_below_drewN | apply below_drew1) | exact HB.out))) : w.heap.size ≤ gb101)); clear HB; have HB := n0_; have BK101 := n1_; have GW101 := n2_; have GE101 := n3_; clear n0_ n1_ n2_ n3_; clear hb hbox hg) | ((with_reducible refine gate_callee (f := 55) rfl ?_); refine goesL_ (some 13) rfl rfl Try.func55 (by kernel_rfl) rfl #[.int .i64 a0, .int .i64 1, .int .i64 4] rfl (by (try simp only [List.map_toArray, List.map_cons, List.map_nil]); first | done | rfl | (simp only [List.length_drop, List.length_take]; rfl)) ?_; (with_reducible refine (spec_l1In.calls a0 1 4 false _ A2.out).mono ?_); rintro e w' ⟨rfl, ⟨nd, rfl⟩⟩; refine ⟨_, rfl, ?_⟩; (try (rw [drewN_self w79]; generalize hq_ : World.drewN w79 _ = w79; have n0_ : Aside0 (w79.heap[gb101]? = some (.cells #[.int .i64 0, .slice none 0 0, .slice none 0 0] 35 (0, 0))) := ⟨by rw [← hq_]; exact (by (with_reducible repeat (first | refine blk_drewN ?_ _ | refine blk_drew ?_ | refine blk_alloc ?_ _)); exact BK101.out)⟩; have n1_ : Aside0 (Below w.heap.size w w79) := ⟨by rw [← hq_]; exact (by repeat (first | (with_reducible first | exact HB.out | apply below_alloc | apply pw_below_drewN | apply below_drew1 | refine below_set ?_ GE101.out) | exact HB.out))⟩; clear BK101 HB hq_; have BK101 := n0_; have HB := n1_; clear n0_ n1_)); have hcz80_0 : w79.cell? ⟨gb101, 0, none⟩ = some (.int .i64 0) := (blk_cell BK101.out 0).trans rfl; have hcz80_1 : w79.cell? ⟨gb101, 1, none⟩ = some (.slice none 0 0) := (blk_cell BK101.out 1).trans rfl; have hcz80_2 : w79.cell? ⟨gb101, 2, none⟩ = some (.slice none 0 0) := (blk_cell BK101.out 2).trans rfl; have hfz80_0 := blk_frozen BK101.out 0; have hfz80_1 := blk_frozen BK101.out 1; have hfz80_2 := blk_frozen BK101.out 2))
    refine bodyPost_ret (results_ct rfl _ _ gb101 35 #[.int .i64 0, .slice none 0 0, .slice none 0 0] (0, 0) _ rfl (by (with_reducible repeat (first | refine blk_drewN ?_ _ | refine blk_drew ?_ | refine blk_alloc ?_ _)); refine blk_put (cs := #[.int .i64 0, .slice none 0 0, .slice none 0 0]) ?_ 2 _ rfl; (with_reducible repeat (first | refine blk_drewN ?_ _ | refine blk_drew ?_ | refine blk_alloc ?_ _)); refine blk_put (cs := #[.int .i64 0, .slice none 0 0, .slice none 0 0]) ?_ 1 _ rfl; (with_reducible repeat (first | refine blk_drewN ?_ _ | refine blk_drew ?_ | refine blk_alloc ?_ _)); refine blk_put (cs := #[.int .i64 0, .slice none 0 0, .slice none 0 0]) ?_ 0 _ rfl; (with_reducible repeat (first | refine blk_drewN ?_ _ | refine blk_drew ?_ | refine blk_alloc ?_ _)); exact BK101.out) Try.underlying35 rfl (by kernel_rfl)) rfl ?_
    exact ⟨_, _, by first | rfl | (simp [errW_none, errW_some] <;> rfl) | (simp [*, errW_none, errW_some] <;> rfl), by first | exact Kd.R_nil _ _ _ _ _ | exact Kd.N_nil _ _ _ _ _ | exact Kd.V_nil _ _ _ _ _ | exact Kd.Q_nil _ _ _ _ _ | exact Kd.S_nil _ _ _ _ _, by first | exact Kd.R_nil _ _ _ _ _ | exact Kd.N_nil _ _ _ _ _ | exact Kd.V_nil _ _ _ _ _ | exact Kd.Q_nil _ _ _ _ _ | exact Kd.S_nil _ _ _ _ _, by repeat (first | (with_reducible first | exact HB.out | apply below_alloc | apply pw_below_drewN | apply below_drew1 | refine below_set ?_ GE101.out) | exact HB.out)⟩

end Go.Proofs.Ytaopbkbjfmfcdaa.P
