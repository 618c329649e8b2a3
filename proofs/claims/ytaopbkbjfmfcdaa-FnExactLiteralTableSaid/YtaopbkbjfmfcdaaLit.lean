/- Tables of nine trits: what the functions on them come to, by hand; no condition is set on any claim. -/
import Derived.Test.YtaopbkbjfmfcdaaPx1
import Derived.IntWalk
namespace Go.Proofs.Ytaopbkbjfmfcdaa.P
open Go.RowKit Go.Proofs.YtaopbkbjfmfcdaaW.PrintWords Go.Proofs.YtaopbkbjfmfcdaaW.PrintLast Go.Proofs.YtaopbkbjfmfcdaaW.PrintMore
set_option linter.unusedVariables false
set_option linter.unusedSimpArgs false
set_option maxHeartbeats 8000000 in
set_option maxRecDepth 100000 in
theorem eqTable_same (a0 a1 a2 a3 a4 a5 a6 a7 a8 : Int) (w : World) :
    Calls Try.prog 16 #[.agg #[.int .i64 a0, .int .i64 a1, .int .i64 a2, .int .i64 a3, .int .i64 a4, .int .i64 a5, .int .i64 a6, .int .i64 a7, .int .i64 a8], .agg #[.int .i64 a0, .int .i64 a1, .int .i64 a2, .int .i64 a3, .int .i64 a4, .int .i64 a5, .int .i64 a6, .int .i64 a7, .int .i64 a8]] w fun e w' => e = .returned (.bool true) ∧ Below w.heap.size w w' := by
  have HB := Aside0.mk (Below.refl w.heap.size w)
  go_enter Try.func16, Try.ntmps16
  go_wp2
  go_loopg [5] 10 (fun kq v5 w' => ∃ i : Int, v5 = .int .i64 i ∧ Aside0 (0 ≤ i ∧ i ≤ 9 ∧ (kq : Int) = 10 - i) ∧ Drawn0 ((w.alloc (.cells #[.int .i64 a0, .int .i64 a1, .int .i64 a2, .int .i64 a3, .int .i64 a4, .int .i64 a5, .int .i64 a6, .int .i64 a7, .int .i64 a8] 23)).alloc (.cells #[.int .i64 a0, .int .i64 a1, .int .i64 a2, .int .i64 a3, .int .i64 a4, .int .i64 a5, .int .i64 a6, .int .i64 a7, .int .i64 a8] 23)) w')
  case atStart => exact ⟨0, rfl, ⟨by omega, by omega, by omega⟩, by repeat (first | exact Drawn0.refl _ | apply Drawn0.step)⟩
  case round =>
    obtain ⟨i, rfl, HA, ⟨m1, rfl⟩⟩ := hrel
    have hi : i = 9 ∨ i = 0 ∨ i = 1 ∨ i = 2 ∨ i = 3 ∨ i = 4 ∨ i = 5 ∨ i = 6 ∨ i = 7 ∨ i = 8 := by have := HA.out; omega
    rcases hi with rfl | rfl | rfl | rfl | rfl | rfl | rfl | rfl | rfl | rfl
    · go_wp2
      go_ret
      exact ⟨rfl, by repeat (first | (with_reducible first | exact HB.out | apply below_alloc | apply pw_below_drewN | apply below_drew1) | exact HB.out)⟩
    all_goals
      go_wp2
      repeat (go_quiet (fail); try go_wp2)
      go_roundg (gk - 1)
      case measure => have := HA.out; omega
      case rel => exact ⟨_, rfl, ⟨by omega, by omega, by have := HA.out; omega⟩, by repeat (first | exact Drawn0.refl _ | apply Drawn0.step)⟩
def lits_m : Nat → Array Value
  | 0 => #[.int .i64 0, .int .i64 0, .int .i64 0, .int .i64 0, .int .i64 0, .int .i64 0, .int .i64 0, .int .i64 0, .int .i64 0]
  | 1 => #[.int .i64 1, .int .i64 0, .int .i64 0, .int .i64 0, .int .i64 0, .int .i64 0, .int .i64 0, .int .i64 0, .int .i64 0]
  | 2 => #[.int .i64 1, .int .i64 1, .int .i64 0, .int .i64 0, .int .i64 0, .int .i64 0, .int .i64 0, .int .i64 0, .int .i64 0]
  | 3 => #[.int .i64 1, .int .i64 1, .int .i64 1, .int .i64 0, .int .i64 0, .int .i64 0, .int .i64 0, .int .i64 0, .int .i64 0]
  | 4 => #[.int .i64 1, .int .i64 1, .int .i64 1, .int .i64 (-1), .int .i64 0, .int .i64 0, .int .i64 0, .int .i64 0, .int .i64 0]
  | 5 => #[.int .i64 1, .int .i64 1, .int .i64 1, .int .i64 (-1), .int .i64 (-1), .int .i64 0, .int .i64 0, .int .i64 0, .int .i64 0]
  | 6 => #[.int .i64 1, .int .i64 1, .int .i64 1, .int .i64 (-1), .int .i64 (-1), .int .i64 (-1), .int .i64 0, .int .i64 0, .int .i64 0]
  | 7 => #[.int .i64 1, .int .i64 1, .int .i64 1, .int .i64 (-1), .int .i64 (-1), .int .i64 (-1), .int .i64 (-1), .int .i64 0, .int .i64 0]
  | 8 => #[.int .i64 1, .int .i64 1, .int .i64 1, .int .i64 (-1), .int .i64 (-1), .int .i64 (-1), .int .i64 (-1), .int .i64 (-1), .int .i64 0]
  | 9 => #[.int .i64 1, .int .i64 1, .int .i64 1, .int .i64 (-1), .int .i64 (-1), .int .i64 (-1), .int .i64 (-1), .int .i64 (-1), .int .i64 (-1)]
  | _ => #[]
set_option maxHeartbeats 1600000 in
set_option maxRecDepth 100000 in
theorem specLit_m (w : World) :
    Calls Try.prog 14 #[.int .i64 (-1)] w fun e w' => e = .returned (.agg #[.int .i64 1, .int .i64 1, .int .i64 1, .int .i64 (-1), .int .i64 (-1), .int .i64 (-1), .int .i64 (-1), .int .i64 (-1), .int .i64 (-1)]) ∧ Below w.heap.size w w' := by
  have HB := Aside0.mk (Below.refl w.heap.size w)
  go_enter Try.func14, Try.ntmps14
  go_wp2_with (go_at_call 49; (with_reducible refine (spec_IsTrit.calls (-1) true _ rfl).mono ?_); rintro e w' ⟨rfl, ⟨nd, rfl⟩⟩)
  go_loopg [4] 10 (fun kq v4 w' => ∃ i : Nat, v4 = .int .i64 (i : Int) ∧ Aside0 (i ≤ 9 ∧ kq = 10 - i) ∧ Aside0 (w'.heap[w.heap.size]? = some (.cells #[.int .i64 0, .int .i64 0, .int .i64 0, .int .i64 0, .int .i64 0, .int .i64 0, .int .i64 0, .int .i64 0, .int .i64 0] 23 (0, 0))) ∧ Aside0 (w'.heap[w.heap.size + 1]? = some (.cells (lits_m i) 23 (0, 0))) ∧ Aside0 (Below w.heap.size w w'))
  case atStart => exact ⟨0, rfl, ⟨by omega, rfl⟩, ⟨blk_drewN (blk_alloc (blk_new _ _) _) _⟩, ⟨by refine blk_drewN ?_ _; have h := blk_new (w.alloc (.cells #[.int .i64 0, .int .i64 0, .int .i64 0, .int .i64 0, .int .i64 0, .int .i64 0, .int .i64 0, .int .i64 0, .int .i64 0] 23)) (.cells #[.int .i64 0, .int .i64 0, .int .i64 0, .int .i64 0, .int .i64 0, .int .i64 0, .int .i64 0, .int .i64 0, .int .i64 0] 23); have e : (w.alloc (.cells #[.int .i64 0, .int .i64 0, .int .i64 0, .int .i64 0, .int .i64 0, .int .i64 0, .int .i64 0, .int .i64 0, .int .i64 0] 23)).heap.size = w.heap.size + 1 := Array.size_push _; rw [e] at h; exact h⟩, ⟨by repeat (first | (with_reducible first | exact HB.out | apply below_alloc | apply pw_below_drewN | apply below_drew1) | exact HB.out)⟩⟩
  case round =>
    obtain ⟨i, rfl, HA, BK1, BK2, HB⟩ := hrel
    have hi : i = 9 ∨ i = 0 ∨ i = 1 ∨ i = 2 ∨ i = 3 ∨ i = 4 ∨ i = 5 ∨ i = 6 ∨ i = 7 ∨ i = 8 := by have := HA.out; omega
    rcases hi with rfl | rfl | rfl | rfl | rfl | rfl | rfl | rfl | rfl | rfl
    · have hs2_0 : wr.cell? ⟨w.heap.size + 1, 0, none⟩ = some (.int .i64 1) := (blk_cell BK2.out 0).trans rfl
      have hs2_1 : wr.cell? ⟨w.heap.size + 1, 1, none⟩ = some (.int .i64 1) := (blk_cell BK2.out 1).trans rfl
      have hs2_2 : wr.cell? ⟨w.heap.size + 1, 2, none⟩ = some (.int .i64 1) := (blk_cell BK2.out 2).trans rfl
      have hs2_3 : wr.cell? ⟨w.heap.size + 1, 3, none⟩ = some (.int .i64 (-1)) := (blk_cell BK2.out 3).trans rfl
      have hs2_4 : wr.cell? ⟨w.heap.size + 1, 4, none⟩ = some (.int .i64 (-1)) := (blk_cell BK2.out 4).trans rfl
      have hs2_5 : wr.cell? ⟨w.heap.size + 1, 5, none⟩ = some (.int .i64 (-1)) := (blk_cell BK2.out 5).trans rfl
      have hs2_6 : wr.cell? ⟨w.heap.size + 1, 6, none⟩ = some (.int .i64 (-1)) := (blk_cell BK2.out 6).trans rfl
      have hs2_7 : wr.cell? ⟨w.heap.size + 1, 7, none⟩ = some (.int .i64 (-1)) := (blk_cell BK2.out 7).trans rfl
      have hs2_8 : wr.cell? ⟨w.heap.size + 1, 8, none⟩ = some (.int .i64 (-1)) := (blk_cell BK2.out 8).trans rfl
      have hf2_0 := blk_frozen BK2.out 0
      have hf2_1 := blk_frozen BK2.out 1
      have hf2_2 := blk_frozen BK2.out 2
      have hf2_3 := blk_frozen BK2.out 3
      have hf2_4 := blk_frozen BK2.out 4
      have hf2_5 := blk_frozen BK2.out 5
      have hf2_6 := blk_frozen BK2.out 6
      have hf2_7 := blk_frozen BK2.out 7
      have hf2_8 := blk_frozen BK2.out 8
      have hs1_0 : wr.cell? ⟨w.heap.size, 0, none⟩ = some (.int .i64 0) := (blk_cell BK1.out 0).trans rfl
      have hs1_1 : wr.cell? ⟨w.heap.size, 1, none⟩ = some (.int .i64 0) := (blk_cell BK1.out 1).trans rfl
      have hs1_2 : wr.cell? ⟨w.heap.size, 2, none⟩ = some (.int .i64 0) := (blk_cell BK1.out 2).trans rfl
      have hs1_3 : wr.cell? ⟨w.heap.size, 3, none⟩ = some (.int .i64 0) := (blk_cell BK1.out 3).trans rfl
      have hs1_4 : wr.cell? ⟨w.heap.size, 4, none⟩ = some (.int .i64 0) := (blk_cell BK1.out 4).trans rfl
      have hs1_5 : wr.cell? ⟨w.heap.size, 5, none⟩ = some (.int .i64 0) := (blk_cell BK1.out 5).trans rfl
      have hs1_6 : wr.cell? ⟨w.heap.size, 6, none⟩ = some (.int .i64 0) := (blk_cell BK1.out 6).trans rfl
      have hs1_7 : wr.cell? ⟨w.heap.size, 7, none⟩ = some (.int .i64 0) := (blk_cell BK1.out 7).trans rfl
      have hs1_8 : wr.cell? ⟨w.heap.size, 8, none⟩ = some (.int .i64 0) := (blk_cell BK1.out 8).trans rfl
      have hf1_0 := blk_frozen BK1.out 0
      have hf1_1 := blk_frozen BK1.out 1
      have hf1_2 := blk_frozen BK1.out 2
      have hf1_3 := blk_frozen BK1.out 3
      have hf1_4 := blk_frozen BK1.out 4
      have hf1_5 := blk_frozen BK1.out 5
      have hf1_6 := blk_frozen BK1.out 6
      have hf1_7 := blk_frozen BK1.out 7
      have hf1_8 := blk_frozen BK1.out 8
      go_wp2
      refine bodyPost_ret (v := .agg #[.int .i64 1, .int .i64 1, .int .i64 1, .int .i64 (-1), .int .i64 (-1), .int .i64 (-1), .int .i64 (-1), .int .i64 (-1), .int .i64 (-1)]) ?hr rfl ?_; (case hr => refine results_cell_row rfl _ _ w.heap.size 23 #[.int .i64 1, .int .i64 1, .int .i64 1, .int .i64 (-1), .int .i64 (-1), .int .i64 (-1), .int .i64 (-1), .int .i64 (-1), .int .i64 (-1)] (0, 0) _ rfl ?hg Try.underlying23 rfl (by kernel_rfl); (case hg => refine blk_put (cs := #[.int .i64 1, .int .i64 1, .int .i64 1, .int .i64 (-1), .int .i64 (-1), .int .i64 (-1), .int .i64 (-1), .int .i64 (-1), .int .i64 0]) ?_ 8 (.int .i64 (-1)) rfl; refine blk_put (cs := #[.int .i64 1, .int .i64 1, .int .i64 1, .int .i64 (-1), .int .i64 (-1), .int .i64 (-1), .int .i64 (-1), .int .i64 0, .int .i64 0]) ?_ 7 (.int .i64 (-1)) rfl; refine blk_put (cs := #[.int .i64 1, .int .i64 1, .int .i64 1, .int .i64 (-1), .int .i64 (-1), .int .i64 (-1), .int .i64 0, .int .i64 0, .int .i64 0]) ?_ 6 (.int .i64 (-1)) rfl; refine blk_put (cs := #[.int .i64 1, .int .i64 1, .int .i64 1, .int .i64 (-1), .int .i64 (-1), .int .i64 0, .int .i64 0, .int .i64 0, .int .i64 0]) ?_ 5 (.int .i64 (-1)) rfl; refine blk_put (cs := #[.int .i64 1, .int .i64 1, .int .i64 1, .int .i64 (-1), .int .i64 0, .int .i64 0, .int .i64 0, .int .i64 0, .int .i64 0]) ?_ 4 (.int .i64 (-1)) rfl; refine blk_put (cs := #[.int .i64 1, .int .i64 1, .int .i64 1, .int .i64 0, .int .i64 0, .int .i64 0, .int .i64 0, .int .i64 0, .int .i64 0]) ?_ 3 (.int .i64 (-1)) rfl; refine blk_put (cs := #[.int .i64 1, .int .i64 1, .int .i64 0, .int .i64 0, .int .i64 0, .int .i64 0, .int .i64 0, .int .i64 0, .int .i64 0]) ?_ 2 (.int .i64 (1)) rfl; refine blk_put (cs := #[.int .i64 1, .int .i64 0, .int .i64 0, .int .i64 0, .int .i64 0, .int .i64 0, .int .i64 0, .int .i64 0, .int .i64 0]) ?_ 1 (.int .i64 (1)) rfl; refine blk_put (cs := #[.int .i64 0, .int .i64 0, .int .i64 0, .int .i64 0, .int .i64 0, .int .i64 0, .int .i64 0, .int .i64 0, .int .i64 0]) ?_ 0 (.int .i64 (1)) rfl; exact BK1.out))
      exact ⟨rfl, below_set (below_set (below_set (below_set (below_set (below_set (below_set (below_set (below_set (HB.out) (Nat.le_refl _)) (Nat.le_refl _)) (Nat.le_refl _)) (Nat.le_refl _)) (Nat.le_refl _)) (Nat.le_refl _)) (Nat.le_refl _)) (Nat.le_refl _)) (Nat.le_refl _)⟩
    · have hs2_0 : wr.cell? ⟨w.heap.size + 1, 0, none⟩ = some (.int .i64 0) := (blk_cell BK2.out 0).trans rfl
      have hf2_0 := blk_frozen BK2.out 0
      go_wp2
      repeat (go_quiet (fail); try go_wp2)
      go_roundg (gk - 1)
      case measure => have := HA.out; omega
      case rel => exact ⟨1, rfl, ⟨by omega, by have := HA.out; omega⟩, ⟨by repeat (first | (with_reducible first | exact BK1.out | refine blk_drewN ?_ _ | refine blk_drew ?_) | refine blk_far ?_ (by show w.heap.size ≠ w.heap.size + 1; omega) _)⟩, ⟨by (with_reducible repeat (first | refine blk_drewN ?_ _ | refine blk_drew ?_)); refine blk_put (cs := #[.int .i64 (-1), .int .i64 0, .int .i64 0, .int .i64 0, .int .i64 0, .int .i64 0, .int .i64 0, .int .i64 0, .int .i64 0]) ?_ 0 (.int .i64 1) rfl; (with_reducible repeat (first | refine blk_drewN ?_ _ | refine blk_drew ?_)); refine blk_put (cs := #[.int .i64 0, .int .i64 0, .int .i64 0, .int .i64 0, .int .i64 0, .int .i64 0, .int .i64 0, .int .i64 0, .int .i64 0]) ?_ 0 (.int .i64 (-1)) rfl; (with_reducible repeat (first | refine blk_drewN ?_ _ | refine blk_drew ?_)); exact BK2.out⟩, ⟨by repeat (first | (with_reducible first | exact HB.out | apply below_alloc | apply pw_below_drewN | apply below_drew1) | refine below_set ?_ (Nat.le_succ _))⟩⟩
    · have hs2_1 : wr.cell? ⟨w.heap.size + 1, 1, none⟩ = some (.int .i64 0) := (blk_cell BK2.out 1).trans rfl
      have hf2_1 := blk_frozen BK2.out 1
      go_wp2
      repeat (go_quiet (fail); try go_wp2)
      go_roundg (gk - 1)
      case measure => have := HA.out; omega
      case rel => exact ⟨2, rfl, ⟨by omega, by have := HA.out; omega⟩, ⟨by repeat (first | (with_reducible first | exact BK1.out | refine blk_drewN ?_ _ | refine blk_drew ?_) | refine blk_far ?_ (by show w.heap.size ≠ w.heap.size + 1; omega) _)⟩, ⟨by (with_reducible repeat (first | refine blk_drewN ?_ _ | refine blk_drew ?_)); refine blk_put (cs := #[.int .i64 1, .int .i64 (-1), .int .i64 0, .int .i64 0, .int .i64 0, .int .i64 0, .int .i64 0, .int .i64 0, .int .i64 0]) ?_ 1 (.int .i64 1) rfl; (with_reducible repeat (first | refine blk_drewN ?_ _ | refine blk_drew ?_)); refine blk_put (cs := #[.int .i64 1, .int .i64 0, .int .i64 0, .int .i64 0, .int .i64 0, .int .i64 0, .int .i64 0, .int .i64 0, .int .i64 0]) ?_ 1 (.int .i64 (-1)) rfl; (with_reducible repeat (first | refine blk_drewN ?_ _ | refine blk_drew ?_)); exact BK2.out⟩, ⟨by repeat (first | (with_reducible first | exact HB.out | apply below_alloc | apply pw_below_drewN | apply below_drew1) | refine below_set ?_ (Nat.le_succ _))⟩⟩
    · have hs2_2 : wr.cell? ⟨w.heap.size + 1, 2, none⟩ = some (.int .i64 0) := (blk_cell BK2.out 2).trans rfl
      have hf2_2 := blk_frozen BK2.out 2
      go_wp2
      repeat (go_quiet (fail); try go_wp2)
      go_roundg (gk - 1)
      case measure => have := HA.out; omega
      case rel => exact ⟨3, rfl, ⟨by omega, by have := HA.out; omega⟩, ⟨by repeat (first | (with_reducible first | exact BK1.out | refine blk_drewN ?_ _ | refine blk_drew ?_) | refine blk_far ?_ (by show w.heap.size ≠ w.heap.size + 1; omega) _)⟩, ⟨by (with_reducible repeat (first | refine blk_drewN ?_ _ | refine blk_drew ?_)); refine blk_put (cs := #[.int .i64 1, .int .i64 1, .int .i64 (-1), .int .i64 0, .int .i64 0, .int .i64 0, .int .i64 0, .int .i64 0, .int .i64 0]) ?_ 2 (.int .i64 1) rfl; (with_reducible repeat (first | refine blk_drewN ?_ _ | refine blk_drew ?_)); refine blk_put (cs := #[.int .i64 1, .int .i64 1, .int .i64 0, .int .i64 0, .int .i64 0, .int .i64 0, .int .i64 0, .int .i64 0, .int .i64 0]) ?_ 2 (.int .i64 (-1)) rfl; (with_reducible repeat (first | refine blk_drewN ?_ _ | refine blk_drew ?_)); exact BK2.out⟩, ⟨by repeat (first | (with_reducible first | exact HB.out | apply below_alloc | apply pw_below_drewN | apply below_drew1) | refine below_set ?_ (Nat.le_succ _))⟩⟩
    · have hs2_3 : wr.cell? ⟨w.heap.size + 1, 3, none⟩ = some (.int .i64 0) := (blk_cell BK2.out 3).trans rfl
      have hf2_3 := blk_frozen BK2.out 3
      go_wp2
      repeat (go_quiet (fail); try go_wp2)
      go_roundg (gk - 1)
      case measure => have := HA.out; omega
      case rel => exact ⟨4, rfl, ⟨by omega, by have := HA.out; omega⟩, ⟨by repeat (first | (with_reducible first | exact BK1.out | refine blk_drewN ?_ _ | refine blk_drew ?_) | refine blk_far ?_ (by show w.heap.size ≠ w.heap.size + 1; omega) _)⟩, ⟨by (with_reducible repeat (first | refine blk_drewN ?_ _ | refine blk_drew ?_)); refine blk_put (cs := #[.int .i64 1, .int .i64 1, .int .i64 1, .int .i64 0, .int .i64 0, .int .i64 0, .int .i64 0, .int .i64 0, .int .i64 0]) ?_ 3 (.int .i64 (-1)) rfl; (with_reducible repeat (first | refine blk_drewN ?_ _ | refine blk_drew ?_)); exact BK2.out⟩, ⟨by repeat (first | (with_reducible first | exact HB.out | apply below_alloc | apply pw_below_drewN | apply below_drew1) | refine below_set ?_ (Nat.le_succ _))⟩⟩
    · have hs2_4 : wr.cell? ⟨w.heap.size + 1, 4, none⟩ = some (.int .i64 0) := (blk_cell BK2.out 4).trans rfl
      have hf2_4 := blk_frozen BK2.out 4
      go_wp2
      repeat (go_quiet (fail); try go_wp2)
      go_roundg (gk - 1)
      case measure => have := HA.out; omega
      case rel => exact ⟨5, rfl, ⟨by omega, by have := HA.out; omega⟩, ⟨by repeat (first | (with_reducible first | exact BK1.out | refine blk_drewN ?_ _ | refine blk_drew ?_) | refine blk_far ?_ (by show w.heap.size ≠ w.heap.size + 1; omega) _)⟩, ⟨by (with_reducible repeat (first | refine blk_drewN ?_ _ | refine blk_drew ?_)); refine blk_put (cs := #[.int .i64 1, .int .i64 1, .int .i64 1, .int .i64 (-1), .int .i64 0, .int .i64 0, .int .i64 0, .int .i64 0, .int .i64 0]) ?_ 4 (.int .i64 (-1)) rfl; (with_reducible repeat (first | refine blk_drewN ?_ _ | refine blk_drew ?_)); exact BK2.out⟩, ⟨by repeat (first | (with_reducible first | exact HB.out | apply below_alloc | apply pw_below_drewN | apply below_drew1) | refine below_set ?_ (Nat.le_succ _))⟩⟩
    · have hs2_5 : wr.cell? ⟨w.heap.size + 1, 5, none⟩ = some (.int .i64 0) := (blk_cell BK2.out 5).trans rfl
      have hf2_5 := blk_frozen BK2.out 5
      go_wp2
      repeat (go_quiet (fail); try go_wp2)
      go_roundg (gk - 1)
      case measure => have := HA.out; omega
      case rel => exact ⟨6, rfl, ⟨by omega, by have := HA.out; omega⟩, ⟨by repeat (first | (with_reducible first | exact BK1.out | refine blk_drewN ?_ _ | refine blk_drew ?_) | refine blk_far ?_ (by show w.heap.size ≠ w.heap.size + 1; omega) _)⟩, ⟨by (with_reducible repeat (first | refine blk_drewN ?_ _ | refine blk_drew ?_)); refine blk_put (cs := #[.int .i64 1, .int .i64 1, .int .i64 1, .int .i64 (-1), .int .i64 (-1), .int .i64 0, .int .i64 0, .int .i64 0, .int .i64 0]) ?_ 5 (.int .i64 (-1)) rfl; (with_reducible repeat (first | refine blk_drewN ?_ _ | refine blk_drew ?_)); exact BK2.out⟩, ⟨by repeat (first | (with_reducible first | exact HB.out | apply below_alloc | apply pw_below_drewN | apply below_drew1) | refine below_set ?_ (Nat.le_succ _))⟩⟩
    · have hs2_6 : wr.cell? ⟨w.heap.size + 1, 6, none⟩ = some (.int .i64 0) := (blk_cell BK2.out 6).trans rfl
      have hf2_6 := blk_frozen BK2.out 6
      go_wp2
      repeat (go_quiet (fail); try go_wp2)
      go_roundg (gk - 1)
      case measure => have := HA.out; omega
      case rel => exact ⟨7, rfl, ⟨by omega, by have := HA.out; omega⟩, ⟨by repeat (first | (with_reducible first | exact BK1.out | refine blk_drewN ?_ _ | refine blk_drew ?_) | refine blk_far ?_ (by show w.heap.size ≠ w.heap.size + 1; omega) _)⟩, ⟨by (with_reducible repeat (first | refine blk_drewN ?_ _ | refine blk_drew ?_)); refine blk_put (cs := #[.int .i64 1, .int .i64 1, .int .i64 1, .int .i64 (-1), .int .i64 (-1), .int .i64 (-1), .int .i64 0, .int .i64 0, .int .i64 0]) ?_ 6 (.int .i64 (-1)) rfl; (with_reducible repeat (first | refine blk_drewN ?_ _ | refine blk_drew ?_)); exact BK2.out⟩, ⟨by repeat (first | (with_reducible first | exact HB.out | apply below_alloc | apply pw_below_drewN | apply below_drew1) | refine below_set ?_ (Nat.le_succ _))⟩⟩
    · have hs2_7 : wr.cell? ⟨w.heap.size + 1, 7, none⟩ = some (.int .i64 0) := (blk_cell BK2.out 7).trans rfl
      have hf2_7 := blk_frozen BK2.out 7
      go_wp2
      repeat (go_quiet (fail); try go_wp2)
      go_roundg (gk - 1)
      case measure => have := HA.out; omega
      case rel => exact ⟨8, rfl, ⟨by omega, by have := HA.out; omega⟩, ⟨by repeat (first | (with_reducible first | exact BK1.out | refine blk_drewN ?_ _ | refine blk_drew ?_) | refine blk_far ?_ (by show w.heap.size ≠ w.heap.size + 1; omega) _)⟩, ⟨by (with_reducible repeat (first | refine blk_drewN ?_ _ | refine blk_drew ?_)); refine blk_put (cs := #[.int .i64 1, .int .i64 1, .int .i64 1, .int .i64 (-1), .int .i64 (-1), .int .i64 (-1), .int .i64 (-1), .int .i64 0, .int .i64 0]) ?_ 7 (.int .i64 (-1)) rfl; (with_reducible repeat (first | refine blk_drewN ?_ _ | refine blk_drew ?_)); exact BK2.out⟩, ⟨by repeat (first | (with_reducible first | exact HB.out | apply below_alloc | apply pw_below_drewN | apply below_drew1) | refine below_set ?_ (Nat.le_succ _))⟩⟩
    · have hs2_8 : wr.cell? ⟨w.heap.size + 1, 8, none⟩ = some (.int .i64 0) := (blk_cell BK2.out 8).trans rfl
      have hf2_8 := blk_frozen BK2.out 8
      go_wp2
      repeat (go_quiet (fail); try go_wp2)
      go_roundg (gk - 1)
      case measure => have := HA.out; omega
      case rel => exact ⟨9, rfl, ⟨by omega, by have := HA.out; omega⟩, ⟨by repeat (first | (with_reducible first | exact BK1.out | refine blk_drewN ?_ _ | refine blk_drew ?_) | refine blk_far ?_ (by show w.heap.size ≠ w.heap.size + 1; omega) _)⟩, ⟨by (with_reducible repeat (first | refine blk_drewN ?_ _ | refine blk_drew ?_)); refine blk_put (cs := #[.int .i64 1, .int .i64 1, .int .i64 1, .int .i64 (-1), .int .i64 (-1), .int .i64 (-1), .int .i64 (-1), .int .i64 (-1), .int .i64 0]) ?_ 8 (.int .i64 (-1)) rfl; (with_reducible repeat (first | refine blk_drewN ?_ _ | refine blk_drew ?_)); exact BK2.out⟩, ⟨by repeat (first | (with_reducible first | exact HB.out | apply below_alloc | apply pw_below_drewN | apply below_drew1) | refine below_set ?_ (Nat.le_succ _))⟩⟩
def lits_z : Nat → Array Value
  | 0 => #[.int .i64 0, .int .i64 0, .int .i64 0, .int .i64 0, .int .i64 0, .int .i64 0, .int .i64 0, .int .i64 0, .int .i64 0]
  | 1 => #[.int .i64 (-1), .int .i64 0, .int .i64 0, .int .i64 0, .int .i64 0, .int .i64 0, .int .i64 0, .int .i64 0, .int .i64 0]
  | 2 => #[.int .i64 (-1), .int .i64 (-1), .int .i64 0, .int .i64 0, .int .i64 0, .int .i64 0, .int .i64 0, .int .i64 0, .int .i64 0]
  | 3 => #[.int .i64 (-1), .int .i64 (-1), .int .i64 (-1), .int .i64 0, .int .i64 0, .int .i64 0, .int .i64 0, .int .i64 0, .int .i64 0]
  | 4 => #[.int .i64 (-1), .int .i64 (-1), .int .i64 (-1), .int .i64 1, .int .i64 0, .int .i64 0, .int .i64 0, .int .i64 0, .int .i64 0]
  | 5 => #[.int .i64 (-1), .int .i64 (-1), .int .i64 (-1), .int .i64 1, .int .i64 1, .int .i64 0, .int .i64 0, .int .i64 0, .int .i64 0]
  | 6 => #[.int .i64 (-1), .int .i64 (-1), .int .i64 (-1), .int .i64 1, .int .i64 1, .int .i64 1, .int .i64 0, .int .i64 0, .int .i64 0]
  | 7 => #[.int .i64 (-1), .int .i64 (-1), .int .i64 (-1), .int .i64 1, .int .i64 1, .int .i64 1, .int .i64 (-1), .int .i64 0, .int .i64 0]
  | 8 => #[.int .i64 (-1), .int .i64 (-1), .int .i64 (-1), .int .i64 1, .int .i64 1, .int .i64 1, .int .i64 (-1), .int .i64 (-1), .int .i64 0]
  | 9 => #[.int .i64 (-1), .int .i64 (-1), .int .i64 (-1), .int .i64 1, .int .i64 1, .int .i64 1, .int .i64 (-1), .int .i64 (-1), .int .i64 (-1)]
  | _ => #[]
set_option maxHeartbeats 1600000 in
set_option maxRecDepth 100000 in
theorem specLit_z (w : World) :
    Calls Try.prog 14 #[.int .i64 0] w fun e w' => e = .returned (.agg #[.int .i64 (-1), .int .i64 (-1), .int .i64 (-1), .int .i64 1, .int .i64 1, .int .i64 1, .int .i64 (-1), .int .i64 (-1), .int .i64 (-1)]) ∧ Below w.heap.size w w' := by
  have HB := Aside0.mk (Below.refl w.heap.size w)
  go_enter Try.func14, Try.ntmps14
  go_wp2_with (go_at_call 49; (with_reducible refine (spec_IsTrit.calls 0 true _ rfl).mono ?_); rintro e w' ⟨rfl, ⟨nd, rfl⟩⟩)
  go_loopg [4] 10 (fun kq v4 w' => ∃ i : Nat, v4 = .int .i64 (i : Int) ∧ Aside0 (i ≤ 9 ∧ kq = 10 - i) ∧ Aside0 (w'.heap[w.heap.size]? = some (.cells #[.int .i64 0, .int .i64 0, .int .i64 0, .int .i64 0, .int .i64 0, .int .i64 0, .int .i64 0, .int .i64 0, .int .i64 0] 23 (0, 0))) ∧ Aside0 (w'.heap[w.heap.size + 1]? = some (.cells (lits_z i) 23 (0, 0))) ∧ Aside0 (Below w.heap.size w w'))
  case atStart => exact ⟨0, rfl, ⟨by omega, rfl⟩, ⟨blk_drewN (blk_alloc (blk_new _ _) _) _⟩, ⟨by refine blk_drewN ?_ _; have h := blk_new (w.alloc (.cells #[.int .i64 0, .int .i64 0, .int .i64 0, .int .i64 0, .int .i64 0, .int .i64 0, .int .i64 0, .int .i64 0, .int .i64 0] 23)) (.cells #[.int .i64 0, .int .i64 0, .int .i64 0, .int .i64 0, .int .i64 0, .int .i64 0, .int .i64 0, .int .i64 0, .int .i64 0] 23); have e : (w.alloc (.cells #[.int .i64 0, .int .i64 0, .int .i64 0, .int .i64 0, .int .i64 0, .int .i64 0, .int .i64 0, .int .i64 0, .int .i64 0] 23)).heap.size = w.heap.size + 1 := Array.size_push _; rw [e] at h; exact h⟩, ⟨by repeat (first | (with_reducible first | exact HB.out | apply below_alloc | apply pw_below_drewN | apply below_drew1) | exact HB.out)⟩⟩
  case round =>
    obtain ⟨i, rfl, HA, BK1, BK2, HB⟩ := hrel
    have hi : i = 9 ∨ i = 0 ∨ i = 1 ∨ i = 2 ∨ i = 3 ∨ i = 4 ∨ i = 5 ∨ i = 6 ∨ i = 7 ∨ i = 8 := by have := HA.out; omega
    rcases hi with rfl | rfl | rfl | rfl | rfl | rfl | rfl | rfl | rfl | rfl
    · have hs2_0 : wr.cell? ⟨w.heap.size + 1, 0, none⟩ = some (.int .i64 (-1)) := (blk_cell BK2.out 0).trans rfl
      have hs2_1 : wr.cell? ⟨w.heap.size + 1, 1, none⟩ = some (.int .i64 (-1)) := (blk_cell BK2.out 1).trans rfl
      have hs2_2 : wr.cell? ⟨w.heap.size + 1, 2, none⟩ = some (.int .i64 (-1)) := (blk_cell BK2.out 2).trans rfl
      have hs2_3 : wr.cell? ⟨w.heap.size + 1, 3, none⟩ = some (.int .i64 1) := (blk_cell BK2.out 3).trans rfl
      have hs2_4 : wr.cell? ⟨w.heap.size + 1, 4, none⟩ = some (.int .i64 1) := (blk_cell BK2.out 4).trans rfl
      have hs2_5 : wr.cell? ⟨w.heap.size + 1, 5, none⟩ = some (.int .i64 1) := (blk_cell BK2.out 5).trans rfl
      have hs2_6 : wr.cell? ⟨w.heap.size + 1, 6, none⟩ = some (.int .i64 (-1)) := (blk_cell BK2.out 6).trans rfl
      have hs2_7 : wr.cell? ⟨w.heap.size + 1, 7, none⟩ = some (.int .i64 (-1)) := (blk_cell BK2.out 7).trans rfl
      have hs2_8 : wr.cell? ⟨w.heap.size + 1, 8, none⟩ = some (.int .i64 (-1)) := (blk_cell BK2.out 8).trans rfl
      have hf2_0 := blk_frozen BK2.out 0
      have hf2_1 := blk_frozen BK2.out 1
      have hf2_2 := blk_frozen BK2.out 2
      have hf2_3 := blk_frozen BK2.out 3
      have hf2_4 := blk_frozen BK2.out 4
      have hf2_5 := blk_frozen BK2.out 5
      have hf2_6 := blk_frozen BK2.out 6
      have hf2_7 := blk_frozen BK2.out 7
      have hf2_8 := blk_frozen BK2.out 8
      have hs1_0 : wr.cell? ⟨w.heap.size, 0, none⟩ = some (.int .i64 0) := (blk_cell BK1.out 0).trans rfl
      have hs1_1 : wr.cell? ⟨w.heap.size, 1, none⟩ = some (.int .i64 0) := (blk_cell BK1.out 1).trans rfl
      have hs1_2 : wr.cell? ⟨w.heap.size, 2, none⟩ = some (.int .i64 0) := (blk_cell BK1.out 2).trans rfl
      have hs1_3 : wr.cell? ⟨w.heap.size, 3, none⟩ = some (.int .i64 0) := (blk_cell BK1.out 3).trans rfl
      have hs1_4 : wr.cell? ⟨w.heap.size, 4, none⟩ = some (.int .i64 0) := (blk_cell BK1.out 4).trans rfl
      have hs1_5 : wr.cell? ⟨w.heap.size, 5, none⟩ = some (.int .i64 0) := (blk_cell BK1.out 5).trans rfl
      have hs1_6 : wr.cell? ⟨w.heap.size, 6, none⟩ = some (.int .i64 0) := (blk_cell BK1.out 6).trans rfl
      have hs1_7 : wr.cell? ⟨w.heap.size, 7, none⟩ = some (.int .i64 0) := (blk_cell BK1.out 7).trans rfl
      have hs1_8 : wr.cell? ⟨w.heap.size, 8, none⟩ = some (.int .i64 0) := (blk_cell BK1.out 8).trans rfl
      have hf1_0 := blk_frozen BK1.out 0
      have hf1_1 := blk_frozen BK1.out 1
      have hf1_2 := blk_frozen BK1.out 2
      have hf1_3 := blk_frozen BK1.out 3
      have hf1_4 := blk_frozen BK1.out 4
      have hf1_5 := blk_frozen BK1.out 5
      have hf1_6 := blk_frozen BK1.out 6
      have hf1_7 := blk_frozen BK1.out 7
      have hf1_8 := blk_frozen BK1.out 8
      go_wp2
      refine bodyPost_ret (v := .agg #[.int .i64 (-1), .int .i64 (-1), .int .i64 (-1), .int .i64 1, .int .i64 1, .int .i64 1, .int .i64 (-1), .int .i64 (-1), .int .i64 (-1)]) ?hr rfl ?_; (case hr => refine results_cell_row rfl _ _ w.heap.size 23 #[.int .i64 (-1), .int .i64 (-1), .int .i64 (-1), .int .i64 1, .int .i64 1, .int .i64 1, .int .i64 (-1), .int .i64 (-1), .int .i64 (-1)] (0, 0) _ rfl ?hg Try.underlying23 rfl (by kernel_rfl); (case hg => refine blk_put (cs := #[.int .i64 (-1), .int .i64 (-1), .int .i64 (-1), .int .i64 1, .int .i64 1, .int .i64 1, .int .i64 (-1), .int .i64 (-1), .int .i64 0]) ?_ 8 (.int .i64 (-1)) rfl; refine blk_put (cs := #[.int .i64 (-1), .int .i64 (-1), .int .i64 (-1), .int .i64 1, .int .i64 1, .int .i64 1, .int .i64 (-1), .int .i64 0, .int .i64 0]) ?_ 7 (.int .i64 (-1)) rfl; refine blk_put (cs := #[.int .i64 (-1), .int .i64 (-1), .int .i64 (-1), .int .i64 1, .int .i64 1, .int .i64 1, .int .i64 0, .int .i64 0, .int .i64 0]) ?_ 6 (.int .i64 (-1)) rfl; refine blk_put (cs := #[.int .i64 (-1), .int .i64 (-1), .int .i64 (-1), .int .i64 1, .int .i64 1, .int .i64 0, .int .i64 0, .int .i64 0, .int .i64 0]) ?_ 5 (.int .i64 (1)) rfl; refine blk_put (cs := #[.int .i64 (-1), .int .i64 (-1), .int .i64 (-1), .int .i64 1, .int .i64 0, .int .i64 0, .int .i64 0, .int .i64 0, .int .i64 0]) ?_ 4 (.int .i64 (1)) rfl; refine blk_put (cs := #[.int .i64 (-1), .int .i64 (-1), .int .i64 (-1), .int .i64 0, .int .i64 0, .int .i64 0, .int .i64 0, .int .i64 0, .int .i64 0]) ?_ 3 (.int .i64 (1)) rfl; refine blk_put (cs := #[.int .i64 (-1), .int .i64 (-1), .int .i64 0, .int .i64 0, .int .i64 0, .int .i64 0, .int .i64 0, .int .i64 0, .int .i64 0]) ?_ 2 (.int .i64 (-1)) rfl; refine blk_put (cs := #[.int .i64 (-1), .int .i64 0, .int .i64 0, .int .i64 0, .int .i64 0, .int .i64 0, .int .i64 0, .int .i64 0, .int .i64 0]) ?_ 1 (.int .i64 (-1)) rfl; refine blk_put (cs := #[.int .i64 0, .int .i64 0, .int .i64 0, .int .i64 0, .int .i64 0, .int .i64 0, .int .i64 0, .int .i64 0, .int .i64 0]) ?_ 0 (.int .i64 (-1)) rfl; exact BK1.out))
      exact ⟨rfl, below_set (below_set (below_set (below_set (below_set (below_set (below_set (below_set (below_set (HB.out) (Nat.le_refl _)) (Nat.le_refl _)) (Nat.le_refl _)) (Nat.le_refl _)) (Nat.le_refl _)) (Nat.le_refl _)) (Nat.le_refl _)) (Nat.le_refl _)) (Nat.le_refl _)⟩
    · have hs2_0 : wr.cell? ⟨w.heap.size + 1, 0, none⟩ = some (.int .i64 0) := (blk_cell BK2.out 0).trans rfl
      have hf2_0 := blk_frozen BK2.out 0
      go_wp2
      repeat (go_quiet (fail); try go_wp2)
      go_roundg (gk - 1)
      case measure => have := HA.out; omega
      case rel => exact ⟨1, rfl, ⟨by omega, by have := HA.out; omega⟩, ⟨by repeat (first | (with_reducible first | exact BK1.out | refine blk_drewN ?_ _ | refine blk_drew ?_) | refine blk_far ?_ (by show w.heap.size ≠ w.heap.size + 1; omega) _)⟩, ⟨by (with_reducible repeat (first | refine blk_drewN ?_ _ | refine blk_drew ?_)); refine blk_put (cs := #[.int .i64 0, .int .i64 0, .int .i64 0, .int .i64 0, .int .i64 0, .int .i64 0, .int .i64 0, .int .i64 0, .int .i64 0]) ?_ 0 (.int .i64 (-1)) rfl; (with_reducible repeat (first | refine blk_drewN ?_ _ | refine blk_drew ?_)); exact BK2.out⟩, ⟨by repeat (first | (with_reducible first | exact HB.out | apply below_alloc | apply pw_below_drewN | apply below_drew1) | refine below_set ?_ (Nat.le_succ _))⟩⟩
    · have hs2_1 : wr.cell? ⟨w.heap.size + 1, 1, none⟩ = some (.int .i64 0) := (blk_cell BK2.out 1).trans rfl
      have hf2_1 := blk_frozen BK2.out 1
      go_wp2
      repeat (go_quiet (fail); try go_wp2)
      go_roundg (gk - 1)
      case measure => have := HA.out; omega
      case rel => exact ⟨2, rfl, ⟨by omega, by have := HA.out; omega⟩, ⟨by repeat (first | (with_reducible first | exact BK1.out | refine blk_drewN ?_ _ | refine blk_drew ?_) | refine blk_far ?_ (by show w.heap.size ≠ w.heap.size + 1; omega) _)⟩, ⟨by (with_reducible repeat (first | refine blk_drewN ?_ _ | refine blk_drew ?_)); refine blk_put (cs := #[.int .i64 (-1), .int .i64 0, .int .i64 0, .int .i64 0, .int .i64 0, .int .i64 0, .int .i64 0, .int .i64 0, .int .i64 0]) ?_ 1 (.int .i64 (-1)) rfl; (with_reducible repeat (first | refine blk_drewN ?_ _ | refine blk_drew ?_)); exact BK2.out⟩, ⟨by repeat (first | (with_reducible first | exact HB.out | apply below_alloc | apply pw_below_drewN | apply below_drew1) | refine below_set ?_ (Nat.le_succ _))⟩⟩
    · have hs2_2 : wr.cell? ⟨w.heap.size + 1, 2, none⟩ = some (.int .i64 0) := (blk_cell BK2.out 2).trans rfl
      have hf2_2 := blk_frozen BK2.out 2
      go_wp2
      repeat (go_quiet (fail); try go_wp2)
      go_roundg (gk - 1)
      case measure => have := HA.out; omega
      case rel => exact ⟨3, rfl, ⟨by omega, by have := HA.out; omega⟩, ⟨by repeat (first | (with_reducible first | exact BK1.out | refine blk_drewN ?_ _ | refine blk_drew ?_) | refine blk_far ?_ (by show w.heap.size ≠ w.heap.size + 1; omega) _)⟩, ⟨by (with_reducible repeat (first | refine blk_drewN ?_ _ | refine blk_drew ?_)); refine blk_put (cs := #[.int .i64 (-1), .int .i64 (-1), .int .i64 0, .int .i64 0, .int .i64 0, .int .i64 0, .int .i64 0, .int .i64 0, .int .i64 0]) ?_ 2 (.int .i64 (-1)) rfl; (with_reducible repeat (first | refine blk_drewN ?_ _ | refine blk_drew ?_)); exact BK2.out⟩, ⟨by repeat (first | (with_reducible first | exact HB.out | apply below_alloc | apply pw_below_drewN | apply below_drew1) | refine below_set ?_ (Nat.le_succ _))⟩⟩
    · have hs2_3 : wr.cell? ⟨w.heap.size + 1, 3, none⟩ = some (.int .i64 0) := (blk_cell BK2.out 3).trans rfl
      have hf2_3 := blk_frozen BK2.out 3
      go_wp2
      repeat (go_quiet (fail); try go_wp2)
      go_roundg (gk - 1)
      case measure => have := HA.out; omega
      case rel => exact ⟨4, rfl, ⟨by omega, by have := HA.out; omega⟩, ⟨by repeat (first | (with_reducible first | exact BK1.out | refine blk_drewN ?_ _ | refine blk_drew ?_) | refine blk_far ?_ (by show w.heap.size ≠ w.heap.size + 1; omega) _)⟩, ⟨by (with_reducible repeat (first | refine blk_drewN ?_ _ | refine blk_drew ?_)); refine blk_put (cs := #[.int .i64 (-1), .int .i64 (-1), .int .i64 (-1), .int .i64 (-1), .int .i64 0, .int .i64 0, .int .i64 0, .int .i64 0, .int .i64 0]) ?_ 3 (.int .i64 1) rfl; (with_reducible repeat (first | refine blk_drewN ?_ _ | refine blk_drew ?_)); refine blk_put (cs := #[.int .i64 (-1), .int .i64 (-1), .int .i64 (-1), .int .i64 0, .int .i64 0, .int .i64 0, .int .i64 0, .int .i64 0, .int .i64 0]) ?_ 3 (.int .i64 (-1)) rfl; (with_reducible repeat (first | refine blk_drewN ?_ _ | refine blk_drew ?_)); exact BK2.out⟩, ⟨by repeat (first | (with_reducible first | exact HB.out | apply below_alloc | apply pw_below_drewN | apply below_drew1) | refine below_set ?_ (Nat.le_succ _))⟩⟩
    · have hs2_4 : wr.cell? ⟨w.heap.size + 1, 4, none⟩ = some (.int .i64 0) := (blk_cell BK2.out 4).trans rfl
      have hf2_4 := blk_frozen BK2.out 4
      go_wp2
      repeat (go_quiet (fail); try go_wp2)
      go_roundg (gk - 1)
      case measure => have := HA.out; omega
      case rel => exact ⟨5, rfl, ⟨by omega, by have := HA.out; omega⟩, ⟨by repeat (first | (with_reducible first | exact BK1.out | refine blk_drewN ?_ _ | refine blk_drew ?_) | refine blk_far ?_ (by show w.heap.size ≠ w.heap.size + 1; omega) _)⟩, ⟨by (with_reducible repeat (first | refine blk_drewN ?_ _ | refine blk_drew ?_)); refine blk_put (cs := #[.int .i64 (-1), .int .i64 (-1), .int .i64 (-1), .int .i64 1, .int .i64 (-1), .int .i64 0, .int .i64 0, .int .i64 0, .int .i64 0]) ?_ 4 (.int .i64 1) rfl; (with_reducible repeat (first | refine blk_drewN ?_ _ | refine blk_drew ?_)); refine blk_put (cs := #[.int .i64 (-1), .int .i64 (-1), .int .i64 (-1), .int .i64 1, .int .i64 0, .int .i64 0, .int .i64 0, .int .i64 0, .int .i64 0]) ?_ 4 (.int .i64 (-1)) rfl; (with_reducible repeat (first | refine blk_drewN ?_ _ | refine blk_drew ?_)); exact BK2.out⟩, ⟨by repeat (first | (with_reducible first | exact HB.out | apply below_alloc | apply pw_below_drewN | apply below_drew1) | refine below_set ?_ (Nat.le_succ _))⟩⟩
    · have hs2_5 : wr.cell? ⟨w.heap.size + 1, 5, none⟩ = some (.int .i64 0) := (blk_cell BK2.out 5).trans rfl
      have hf2_5 := blk_frozen BK2.out 5
      go_wp2
      repeat (go_quiet (fail); try go_wp2)
      go_roundg (gk - 1)
      case measure => have := HA.out; omega
      case rel => exact ⟨6, rfl, ⟨by omega, by have := HA.out; omega⟩, ⟨by repeat (first | (with_reducible first | exact BK1.out | refine blk_drewN ?_ _ | refine blk_drew ?_) | refine blk_far ?_ (by show w.heap.size ≠ w.heap.size + 1; omega) _)⟩, ⟨by (with_reducible repeat (first | refine blk_drewN ?_ _ | refine blk_drew ?_)); refine blk_put (cs := #[.int .i64 (-1), .int .i64 (-1), .int .i64 (-1), .int .i64 1, .int .i64 1, .int .i64 (-1), .int .i64 0, .int .i64 0, .int .i64 0]) ?_ 5 (.int .i64 1) rfl; (with_reducible repeat (first | refine blk_drewN ?_ _ | refine blk_drew ?_)); refine blk_put (cs := #[.int .i64 (-1), .int .i64 (-1), .int .i64 (-1), .int .i64 1, .int .i64 1, .int .i64 0, .int .i64 0, .int .i64 0, .int .i64 0]) ?_ 5 (.int .i64 (-1)) rfl; (with_reducible repeat (first | refine blk_drewN ?_ _ | refine blk_drew ?_)); exact BK2.out⟩, ⟨by repeat (first | (with_reducible first | exact HB.out | apply below_alloc | apply pw_below_drewN | apply below_drew1) | refine below_set ?_ (Nat.le_succ _))⟩⟩
    · have hs2_6 : wr.cell? ⟨w.heap.size + 1, 6, none⟩ = some (.int .i64 0) := (blk_cell BK2.out 6).trans rfl
      have hf2_6 := blk_frozen BK2.out 6
      go_wp2
      repeat (go_quiet (fail); try go_wp2)
      go_roundg (gk - 1)
      case measure => have := HA.out; omega
      case rel => exact ⟨7, rfl, ⟨by omega, by have := HA.out; omega⟩, ⟨by repeat (first | (with_reducible first | exact BK1.out | refine blk_drewN ?_ _ | refine blk_drew ?_) | refine blk_far ?_ (by show w.heap.size ≠ w.heap.size + 1; omega) _)⟩, ⟨by (with_reducible repeat (first | refine blk_drewN ?_ _ | refine blk_drew ?_)); refine blk_put (cs := #[.int .i64 (-1), .int .i64 (-1), .int .i64 (-1), .int .i64 1, .int .i64 1, .int .i64 1, .int .i64 0, .int .i64 0, .int .i64 0]) ?_ 6 (.int .i64 (-1)) rfl; (with_reducible repeat (first | refine blk_drewN ?_ _ | refine blk_drew ?_)); exact BK2.out⟩, ⟨by repeat (first | (with_reducible first | exact HB.out | apply below_alloc | apply pw_below_drewN | apply below_drew1) | refine below_set ?_ (Nat.le_succ _))⟩⟩
    · have hs2_7 : wr.cell? ⟨w.heap.size + 1, 7, none⟩ = some (.int .i64 0) := (blk_cell BK2.out 7).trans rfl
      have hf2_7 := blk_frozen BK2.out 7
      go_wp2
      repeat (go_quiet (fail); try go_wp2)
      go_roundg (gk - 1)
      case measure => have := HA.out; omega
      case rel => exact ⟨8, rfl, ⟨by omega, by have := HA.out; omega⟩, ⟨by repeat (first | (with_reducible first | exact BK1.out | refine blk_drewN ?_ _ | refine blk_drew ?_) | refine blk_far ?_ (by show w.heap.size ≠ w.heap.size + 1; omega) _)⟩, ⟨by (with_reducible repeat (first | refine blk_drewN ?_ _ | refine blk_drew ?_)); refine blk_put (cs := #[.int .i64 (-1), .int .i64 (-1), .int .i64 (-1), .int .i64 1, .int .i64 1, .int .i64 1, .int .i64 (-1), .int .i64 0, .int .i64 0]) ?_ 7 (.int .i64 (-1)) rfl; (with_reducible repeat (first | refine blk_drewN ?_ _ | refine blk_drew ?_)); exact BK2.out⟩, ⟨by repeat (first | (with_reducible first | exact HB.out | apply below_alloc | apply pw_below_drewN | apply below_drew1) | refine below_set ?_ (Nat.le_succ _))⟩⟩
    · have hs2_8 : wr.cell? ⟨w.heap.size + 1, 8, none⟩ = some (.int .i64 0) := (blk_cell BK2.out 8).trans rfl
      have hf2_8 := blk_frozen BK2.out 8
      go_wp2
      repeat (go_quiet (fail); try go_wp2)
      go_roundg (gk - 1)
      case measure => have := HA.out; omega
      case rel => exact ⟨9, rfl, ⟨by omega, by have := HA.out; omega⟩, ⟨by repeat (first | (with_reducible first | exact BK1.out | refine blk_drewN ?_ _ | refine blk_drew ?_) | refine blk_far ?_ (by show w.heap.size ≠ w.heap.size + 1; omega) _)⟩, ⟨by (with_reducible repeat (first | refine blk_drewN ?_ _ | refine blk_drew ?_)); refine blk_put (cs := #[.int .i64 (-1), .int .i64 (-1), .int .i64 (-1), .int .i64 1, .int .i64 1, .int .i64 1, .int .i64 (-1), .int .i64 (-1), .int .i64 0]) ?_ 8 (.int .i64 (-1)) rfl; (with_reducible repeat (first | refine blk_drewN ?_ _ | refine blk_drew ?_)); exact BK2.out⟩, ⟨by repeat (first | (with_reducible first | exact HB.out | apply below_alloc | apply pw_below_drewN | apply below_drew1) | refine below_set ?_ (Nat.le_succ _))⟩⟩
def lits_p : Nat → Array Value
  | 0 => #[.int .i64 0, .int .i64 0, .int .i64 0, .int .i64 0, .int .i64 0, .int .i64 0, .int .i64 0, .int .i64 0, .int .i64 0]
  | 1 => #[.int .i64 (-1), .int .i64 0, .int .i64 0, .int .i64 0, .int .i64 0, .int .i64 0, .int .i64 0, .int .i64 0, .int .i64 0]
  | 2 => #[.int .i64 (-1), .int .i64 (-1), .int .i64 0, .int .i64 0, .int .i64 0, .int .i64 0, .int .i64 0, .int .i64 0, .int .i64 0]
  | 3 => #[.int .i64 (-1), .int .i64 (-1), .int .i64 (-1), .int .i64 0, .int .i64 0, .int .i64 0, .int .i64 0, .int .i64 0, .int .i64 0]
  | 4 => #[.int .i64 (-1), .int .i64 (-1), .int .i64 (-1), .int .i64 (-1), .int .i64 0, .int .i64 0, .int .i64 0, .int .i64 0, .int .i64 0]
  | 5 => #[.int .i64 (-1), .int .i64 (-1), .int .i64 (-1), .int .i64 (-1), .int .i64 (-1), .int .i64 0, .int .i64 0, .int .i64 0, .int .i64 0]
  | 6 => #[.int .i64 (-1), .int .i64 (-1), .int .i64 (-1), .int .i64 (-1), .int .i64 (-1), .int .i64 (-1), .int .i64 0, .int .i64 0, .int .i64 0]
  | 7 => #[.int .i64 (-1), .int .i64 (-1), .int .i64 (-1), .int .i64 (-1), .int .i64 (-1), .int .i64 (-1), .int .i64 1, .int .i64 0, .int .i64 0]
  | 8 => #[.int .i64 (-1), .int .i64 (-1), .int .i64 (-1), .int .i64 (-1), .int .i64 (-1), .int .i64 (-1), .int .i64 1, .int .i64 1, .int .i64 0]
  | 9 => #[.int .i64 (-1), .int .i64 (-1), .int .i64 (-1), .int .i64 (-1), .int .i64 (-1), .int .i64 (-1), .int .i64 1, .int .i64 1, .int .i64 1]
  | _ => #[]
set_option maxHeartbeats 1600000 in
set_option maxRecDepth 100000 in
theorem specLit_p (w : World) :
    Calls Try.prog 14 #[.int .i64 1] w fun e w' => e = .returned (.agg #[.int .i64 (-1), .int .i64 (-1), .int .i64 (-1), .int .i64 (-1), .int .i64 (-1), .int .i64 (-1), .int .i64 1, .int .i64 1, .int .i64 1]) ∧ Below w.heap.size w w' := by
  have HB := Aside0.mk (Below.refl w.heap.size w)
  go_enter Try.func14, Try.ntmps14
  go_wp2_with (go_at_call 49; (with_reducible refine (spec_IsTrit.calls 1 true _ rfl).mono ?_); rintro e w' ⟨rfl, ⟨nd, rfl⟩⟩)
  go_loopg [4] 10 (fun kq v4 w' => ∃ i : Nat, v4 = .int .i64 (i : Int) ∧ Aside0 (i ≤ 9 ∧ kq = 10 - i) ∧ Aside0 (w'.heap[w.heap.size]? = some (.cells #[.int .i64 0, .int .i64 0, .int .i64 0, .int .i64 0, .int .i64 0, .int .i64 0, .int .i64 0, .int .i64 0, .int .i64 0] 23 (0, 0))) ∧ Aside0 (w'.heap[w.heap.size + 1]? = some (.cells (lits_p i) 23 (0, 0))) ∧ Aside0 (Below w.heap.size w w'))
  case atStart => exact ⟨0, rfl, ⟨by omega, rfl⟩, ⟨blk_drewN (blk_alloc (blk_new _ _) _) _⟩, ⟨by refine blk_drewN ?_ _; have h := blk_new (w.alloc (.cells #[.int .i64 0, .int .i64 0, .int .i64 0, .int .i64 0, .int .i64 0, .int .i64 0, .int .i64 0, .int .i64 0, .int .i64 0] 23)) (.cells #[.int .i64 0, .int .i64 0, .int .i64 0, .int .i64 0, .int .i64 0, .int .i64 0, .int .i64 0, .int .i64 0, .int .i64 0] 23); have e : (w.alloc (.cells #[.int .i64 0, .int .i64 0, .int .i64 0, .int .i64 0, .int .i64 0, .int .i64 0, .int .i64 0, .int .i64 0, .int .i64 0] 23)).heap.size = w.heap.size + 1 := Array.size_push _; rw [e] at h; exact h⟩, ⟨by repeat (first | (with_reducible first | exact HB.out | apply below_alloc | apply pw_below_drewN | apply below_drew1) | exact HB.out)⟩⟩
  case round =>
    obtain ⟨i, rfl, HA, BK1, BK2, HB⟩ := hrel
    have hi : i = 9 ∨ i = 0 ∨ i = 1 ∨ i = 2 ∨ i = 3 ∨ i = 4 ∨ i = 5 ∨ i = 6 ∨ i = 7 ∨ i = 8 := by have := HA.out; omega
    rcases hi with rfl | rfl | rfl | rfl | rfl | rfl | rfl | rfl | rfl | rfl
    · have hs2_0 : wr.cell? ⟨w.heap.size + 1, 0, none⟩ = some (.int .i64 (-1)) := (blk_cell BK2.out 0).trans rfl
      have hs2_1 : wr.cell? ⟨w.heap.size + 1, 1, none⟩ = some (.int .i64 (-1)) := (blk_cell BK2.out 1).trans rfl
      have hs2_2 : wr.cell? ⟨w.heap.size + 1, 2, none⟩ = some (.int .i64 (-1)) := (blk_cell BK2.out 2).trans rfl
      have hs2_3 : wr.cell? ⟨w.heap.size + 1, 3, none⟩ = some (.int .i64 (-1)) := (blk_cell BK2.out 3).trans rfl
      have hs2_4 : wr.cell? ⟨w.heap.size + 1, 4, none⟩ = some (.int .i64 (-1)) := (blk_cell BK2.out 4).trans rfl
      have hs2_5 : wr.cell? ⟨w.heap.size + 1, 5, none⟩ = some (.int .i64 (-1)) := (blk_cell BK2.out 5).trans rfl
      have hs2_6 : wr.cell? ⟨w.heap.size + 1, 6, none⟩ = some (.int .i64 1) := (blk_cell BK2.out 6).trans rfl
      have hs2_7 : wr.cell? ⟨w.heap.size + 1, 7, none⟩ = some (.int .i64 1) := (blk_cell BK2.out 7).trans rfl
      have hs2_8 : wr.cell? ⟨w.heap.size + 1, 8, none⟩ = some (.int .i64 1) := (blk_cell BK2.out 8).trans rfl
      have hf2_0 := blk_frozen BK2.out 0
      have hf2_1 := blk_frozen BK2.out 1
      have hf2_2 := blk_frozen BK2.out 2
      have hf2_3 := blk_frozen BK2.out 3
      have hf2_4 := blk_frozen BK2.out 4
      have hf2_5 := blk_frozen BK2.out 5
      have hf2_6 := blk_frozen BK2.out 6
      have hf2_7 := blk_frozen BK2.out 7
      have hf2_8 := blk_frozen BK2.out 8
      have hs1_0 : wr.cell? ⟨w.heap.size, 0, none⟩ = some (.int .i64 0) := (blk_cell BK1.out 0).trans rfl
      have hs1_1 : wr.cell? ⟨w.heap.size, 1, none⟩ = some (.int .i64 0) := (blk_cell BK1.out 1).trans rfl
      have hs1_2 : wr.cell? ⟨w.heap.size, 2, none⟩ = some (.int .i64 0) := (blk_cell BK1.out 2).trans rfl
      have hs1_3 : wr.cell? ⟨w.heap.size, 3, none⟩ = some (.int .i64 0) := (blk_cell BK1.out 3).trans rfl
      have hs1_4 : wr.cell? ⟨w.heap.size, 4, none⟩ = some (.int .i64 0) := (blk_cell BK1.out 4).trans rfl
      have hs1_5 : wr.cell? ⟨w.heap.size, 5, none⟩ = some (.int .i64 0) := (blk_cell BK1.out 5).trans rfl
      have hs1_6 : wr.cell? ⟨w.heap.size, 6, none⟩ = some (.int .i64 0) := (blk_cell BK1.out 6).trans rfl
      have hs1_7 : wr.cell? ⟨w.heap.size, 7, none⟩ = some (.int .i64 0) := (blk_cell BK1.out 7).trans rfl
      have hs1_8 : wr.cell? ⟨w.heap.size, 8, none⟩ = some (.int .i64 0) := (blk_cell BK1.out 8).trans rfl
      have hf1_0 := blk_frozen BK1.out 0
      have hf1_1 := blk_frozen BK1.out 1
      have hf1_2 := blk_frozen BK1.out 2
      have hf1_3 := blk_frozen BK1.out 3
      have hf1_4 := blk_frozen BK1.out 4
      have hf1_5 := blk_frozen BK1.out 5
      have hf1_6 := blk_frozen BK1.out 6
      have hf1_7 := blk_frozen BK1.out 7
      have hf1_8 := blk_frozen BK1.out 8
      go_wp2
      refine bodyPost_ret (v := .agg #[.int .i64 (-1), .int .i64 (-1), .int .i64 (-1), .int .i64 (-1), .int .i64 (-1), .int .i64 (-1), .int .i64 1, .int .i64 1, .int .i64 1]) ?hr rfl ?_; (case hr => refine results_cell_row rfl _ _ w.heap.size 23 #[.int .i64 (-1), .int .i64 (-1), .int .i64 (-1), .int .i64 (-1), .int .i64 (-1), .int .i64 (-1), .int .i64 1, .int .i64 1, .int .i64 1] (0, 0) _ rfl ?hg Try.underlying23 rfl (by kernel_rfl); (case hg => refine blk_put (cs := #[.int .i64 (-1), .int .i64 (-1), .int .i64 (-1), .int .i64 (-1), .int .i64 (-1), .int .i64 (-1), .int .i64 1, .int .i64 1, .int .i64 0]) ?_ 8 (.int .i64 (1)) rfl; refine blk_put (cs := #[.int .i64 (-1), .int .i64 (-1), .int .i64 (-1), .int .i64 (-1), .int .i64 (-1), .int .i64 (-1), .int .i64 1, .int .i64 0, .int .i64 0]) ?_ 7 (.int .i64 (1)) rfl; refine blk_put (cs := #[.int .i64 (-1), .int .i64 (-1), .int .i64 (-1), .int .i64 (-1), .int .i64 (-1), .int .i64 (-1), .int .i64 0, .int .i64 0, .int .i64 0]) ?_ 6 (.int .i64 (1)) rfl; refine blk_put (cs := #[.int .i64 (-1), .int .i64 (-1), .int .i64 (-1), .int .i64 (-1), .int .i64 (-1), .int .i64 0, .int .i64 0, .int .i64 0, .int .i64 0]) ?_ 5 (.int .i64 (-1)) rfl; refine blk_put (cs := #[.int .i64 (-1), .int .i64 (-1), .int .i64 (-1), .int .i64 (-1), .int .i64 0, .int .i64 0, .int .i64 0, .int .i64 0, .int .i64 0]) ?_ 4 (.int .i64 (-1)) rfl; refine blk_put (cs := #[.int .i64 (-1), .int .i64 (-1), .int .i64 (-1), .int .i64 0, .int .i64 0, .int .i64 0, .int .i64 0, .int .i64 0, .int .i64 0]) ?_ 3 (.int .i64 (-1)) rfl; refine blk_put (cs := #[.int .i64 (-1), .int .i64 (-1), .int .i64 0, .int .i64 0, .int .i64 0, .int .i64 0, .int .i64 0, .int .i64 0, .int .i64 0]) ?_ 2 (.int .i64 (-1)) rfl; refine blk_put (cs := #[.int .i64 (-1), .int .i64 0, .int .i64 0, .int .i64 0, .int .i64 0, .int .i64 0, .int .i64 0, .int .i64 0, .int .i64 0]) ?_ 1 (.int .i64 (-1)) rfl; refine blk_put (cs := #[.int .i64 0, .int .i64 0, .int .i64 0, .int .i64 0, .int .i64 0, .int .i64 0, .int .i64 0, .int .i64 0, .int .i64 0]) ?_ 0 (.int .i64 (-1)) rfl; exact BK1.out))
      exact ⟨rfl, below_set (below_set (below_set (below_set (below_set (below_set (below_set (below_set (below_set (HB.out) (Nat.le_refl _)) (Nat.le_refl _)) (Nat.le_refl _)) (Nat.le_refl _)) (Nat.le_refl _)) (Nat.le_refl _)) (Nat.le_refl _)) (Nat.le_refl _)) (Nat.le_refl _)⟩
    · have hs2_0 : wr.cell? ⟨w.heap.size + 1, 0, none⟩ = some (.int .i64 0) := (blk_cell BK2.out 0).trans rfl
      have hf2_0 := blk_frozen BK2.out 0
      go_wp2
      repeat (go_quiet (fail); try go_wp2)
      go_roundg (gk - 1)
      case measure => have := HA.out; omega
      case rel => exact ⟨1, rfl, ⟨by omega, by have := HA.out; omega⟩, ⟨by repeat (first | (with_reducible first | exact BK1.out | refine blk_drewN ?_ _ | refine blk_drew ?_) | refine blk_far ?_ (by show w.heap.size ≠ w.heap.size + 1; omega) _)⟩, ⟨by (with_reducible repeat (first | refine blk_drewN ?_ _ | refine blk_drew ?_)); refine blk_put (cs := #[.int .i64 0, .int .i64 0, .int .i64 0, .int .i64 0, .int .i64 0, .int .i64 0, .int .i64 0, .int .i64 0, .int .i64 0]) ?_ 0 (.int .i64 (-1)) rfl; (with_reducible repeat (first | refine blk_drewN ?_ _ | refine blk_drew ?_)); exact BK2.out⟩, ⟨by repeat (first | (with_reducible first | exact HB.out | apply below_alloc | apply pw_below_drewN | apply below_drew1) | refine below_set ?_ (Nat.le_succ _))⟩⟩
    · have hs2_1 : wr.cell? ⟨w.heap.size + 1, 1, none⟩ = some (.int .i64 0) := (blk_cell BK2.out 1).trans rfl
      have hf2_1 := blk_frozen BK2.out 1
      go_wp2
      repeat (go_quiet (fail); try go_wp2)
      go_roundg (gk - 1)
      case measure => have := HA.out; omega
      case rel => exact ⟨2, rfl, ⟨by omega, by have := HA.out; omega⟩, ⟨by repeat (first | (with_reducible first | exact BK1.out | refine blk_drewN ?_ _ | refine blk_drew ?_) | refine blk_far ?_ (by show w.heap.size ≠ w.heap.size + 1; omega) _)⟩, ⟨by (with_reducible repeat (first | refine blk_drewN ?_ _ | refine blk_drew ?_)); refine blk_put (cs := #[.int .i64 (-1), .int .i64 0, .int .i64 0, .int .i64 0, .int .i64 0, .int .i64 0, .int .i64 0, .int .i64 0, .int .i64 0]) ?_ 1 (.int .i64 (-1)) rfl; (with_reducible repeat (first | refine blk_drewN ?_ _ | refine blk_drew ?_)); exact BK2.out⟩, ⟨by repeat (first | (with_reducible first | exact HB.out | apply below_alloc | apply pw_below_drewN | apply below_drew1) | refine below_set ?_ (Nat.le_succ _))⟩⟩
    · have hs2_2 : wr.cell? ⟨w.heap.size + 1, 2, none⟩ = some (.int .i64 0) := (blk_cell BK2.out 2).trans rfl
      have hf2_2 := blk_frozen BK2.out 2
      go_wp2
      repeat (go_quiet (fail); try go_wp2)
      go_roundg (gk - 1)
      case measure => have := HA.out; omega
      case rel => exact ⟨3, rfl, ⟨by omega, by have := HA.out; omega⟩, ⟨by repeat (first | (with_reducible first | exact BK1.out | refine blk_drewN ?_ _ | refine blk_drew ?_) | refine blk_far ?_ (by show w.heap.size ≠ w.heap.size + 1; omega) _)⟩, ⟨by (with_reducible repeat (first | refine blk_drewN ?_ _ | refine blk_drew ?_)); refine blk_put (cs := #[.int .i64 (-1), .int .i64 (-1), .int .i64 0, .int .i64 0, .int .i64 0, .int .i64 0, .int .i64 0, .int .i64 0, .int .i64 0]) ?_ 2 (.int .i64 (-1)) rfl; (with_reducible repeat (first | refine blk_drewN ?_ _ | refine blk_drew ?_)); exact BK2.out⟩, ⟨by repeat (first | (with_reducible first | exact HB.out | apply below_alloc | apply pw_below_drewN | apply below_drew1) | refine below_set ?_ (Nat.le_succ _))⟩⟩
    · have hs2_3 : wr.cell? ⟨w.heap.size + 1, 3, none⟩ = some (.int .i64 0) := (blk_cell BK2.out 3).trans rfl
      have hf2_3 := blk_frozen BK2.out 3
      go_wp2
      repeat (go_quiet (fail); try go_wp2)
      go_roundg (gk - 1)
      case measure => have := HA.out; omega
      case rel => exact ⟨4, rfl, ⟨by omega, by have := HA.out; omega⟩, ⟨by repeat (first | (with_reducible first | exact BK1.out | refine blk_drewN ?_ _ | refine blk_drew ?_) | refine blk_far ?_ (by show w.heap.size ≠ w.heap.size + 1; omega) _)⟩, ⟨by (with_reducible repeat (first | refine blk_drewN ?_ _ | refine blk_drew ?_)); refine blk_put (cs := #[.int .i64 (-1), .int .i64 (-1), .int .i64 (-1), .int .i64 0, .int .i64 0, .int .i64 0, .int .i64 0, .int .i64 0, .int .i64 0]) ?_ 3 (.int .i64 (-1)) rfl; (with_reducible repeat (first | refine blk_drewN ?_ _ | refine blk_drew ?_)); exact BK2.out⟩, ⟨by repeat (first | (with_reducible first | exact HB.out | apply below_alloc | apply pw_below_drewN | apply below_drew1) | refine below_set ?_ (Nat.le_succ _))⟩⟩
    · have hs2_4 : wr.cell? ⟨w.heap.size + 1, 4, none⟩ = some (.int .i64 0) := (blk_cell BK2.out 4).trans rfl
      have hf2_4 := blk_frozen BK2.out 4
      go_wp2
      repeat (go_quiet (fail); try go_wp2)
      go_roundg (gk - 1)
      case measure => have := HA.out; omega
      case rel => exact ⟨5, rfl, ⟨by omega, by have := HA.out; omega⟩, ⟨by repeat (first | (with_reducible first | exact BK1.out | refine blk_drewN ?_ _ | refine blk_drew ?_) | refine blk_far ?_ (by show w.heap.size ≠ w.heap.size + 1; omega) _)⟩, ⟨by (with_reducible repeat (first | refine blk_drewN ?_ _ | refine blk_drew ?_)); refine blk_put (cs := #[.int .i64 (-1), .int .i64 (-1), .int .i64 (-1), .int .i64 (-1), .int .i64 0, .int .i64 0, .int .i64 0, .int .i64 0, .int .i64 0]) ?_ 4 (.int .i64 (-1)) rfl; (with_reducible repeat (first | refine blk_drewN ?_ _ | refine blk_drew ?_)); exact BK2.out⟩, ⟨by repeat (first | (with_reducible first | exact HB.out | apply below_alloc | apply pw_below_drewN | apply below_drew1) | refine below_set ?_ (Nat.le_succ _))⟩⟩
    · have hs2_5 : wr.cell? ⟨w.heap.size + 1, 5, none⟩ = some (.int .i64 0) := (blk_cell BK2.out 5).trans rfl
      have hf2_5 := blk_frozen BK2.out 5
      go_wp2
      repeat (go_quiet (fail); try go_wp2)
      go_roundg (gk - 1)
      case measure => have := HA.out; omega
      case rel => exact ⟨6, rfl, ⟨by omega, by have := HA.out; omega⟩, ⟨by repeat (first | (with_reducible first | exact BK1.out | refine blk_drewN ?_ _ | refine blk_drew ?_) | refine blk_far ?_ (by show w.heap.size ≠ w.heap.size + 1; omega) _)⟩, ⟨by (with_reducible repeat (first | refine blk_drewN ?_ _ | refine blk_drew ?_)); refine blk_put (cs := #[.int .i64 (-1), .int .i64 (-1), .int .i64 (-1), .int .i64 (-1), .int .i64 (-1), .int .i64 0, .int .i64 0, .int .i64 0, .int .i64 0]) ?_ 5 (.int .i64 (-1)) rfl; (with_reducible repeat (first | refine blk_drewN ?_ _ | refine blk_drew ?_)); exact BK2.out⟩, ⟨by repeat (first | (with_reducible first | exact HB.out | apply below_alloc | apply pw_below_drewN | apply below_drew1) | refine below_set ?_ (Nat.le_succ _))⟩⟩
    · have hs2_6 : wr.cell? ⟨w.heap.size + 1, 6, none⟩ = some (.int .i64 0) := (blk_cell BK2.out 6).trans rfl
      have hf2_6 := blk_frozen BK2.out 6
      go_wp2
      repeat (go_quiet (fail); try go_wp2)
      go_roundg (gk - 1)
      case measure => have := HA.out; omega
      case rel => exact ⟨7, rfl, ⟨by omega, by have := HA.out; omega⟩, ⟨by repeat (first | (with_reducible first | exact BK1.out | refine blk_drewN ?_ _ | refine blk_drew ?_) | refine blk_far ?_ (by show w.heap.size ≠ w.heap.size + 1; omega) _)⟩, ⟨by (with_reducible repeat (first | refine blk_drewN ?_ _ | refine blk_drew ?_)); refine blk_put (cs := #[.int .i64 (-1), .int .i64 (-1), .int .i64 (-1), .int .i64 (-1), .int .i64 (-1), .int .i64 (-1), .int .i64 (-1), .int .i64 0, .int .i64 0]) ?_ 6 (.int .i64 1) rfl; (with_reducible repeat (first | refine blk_drewN ?_ _ | refine blk_drew ?_)); refine blk_put (cs := #[.int .i64 (-1), .int .i64 (-1), .int .i64 (-1), .int .i64 (-1), .int .i64 (-1), .int .i64 (-1), .int .i64 0, .int .i64 0, .int .i64 0]) ?_ 6 (.int .i64 (-1)) rfl; (with_reducible repeat (first | refine blk_drewN ?_ _ | refine blk_drew ?_)); exact BK2.out⟩, ⟨by repeat (first | (with_reducible first | exact HB.out | apply below_alloc | apply pw_below_drewN | apply below_drew1) | refine below_set ?_ (Nat.le_succ _))⟩⟩
    · have hs2_7 : wr.cell? ⟨w.heap.size + 1, 7, none⟩ = some (.int .i64 0) := (blk_cell BK2.out 7).trans rfl
      have hf2_7 := blk_frozen BK2.out 7
      go_wp2
      repeat (go_quiet (fail); try go_wp2)
      go_roundg (gk - 1)
      case measure => have := HA.out; omega
      case rel => exact ⟨8, rfl, ⟨by omega, by have := HA.out; omega⟩, ⟨by repeat (first | (with_reducible first | exact BK1.out | refine blk_drewN ?_ _ | refine blk_drew ?_) | refine blk_far ?_ (by show w.heap.size ≠ w.heap.size + 1; omega) _)⟩, ⟨by (with_reducible repeat (first | refine blk_drewN ?_ _ | refine blk_drew ?_)); refine blk_put (cs := #[.int .i64 (-1), .int .i64 (-1), .int .i64 (-1), .int .i64 (-1), .int .i64 (-1), .int .i64 (-1), .int .i64 1, .int .i64 (-1), .int .i64 0]) ?_ 7 (.int .i64 1) rfl; (with_reducible repeat (first | refine blk_drewN ?_ _ | refine blk_drew ?_)); refine blk_put (cs := #[.int .i64 (-1), .int .i64 (-1), .int .i64 (-1), .int .i64 (-1), .int .i64 (-1), .int .i64 (-1), .int .i64 1, .int .i64 0, .int .i64 0]) ?_ 7 (.int .i64 (-1)) rfl; (with_reducible repeat (first | refine blk_drewN ?_ _ | refine blk_drew ?_)); exact BK2.out⟩, ⟨by repeat (first | (with_reducible first | exact HB.out | apply below_alloc | apply pw_below_drewN | apply below_drew1) | refine below_set ?_ (Nat.le_succ _))⟩⟩
    · have hs2_8 : wr.cell? ⟨w.heap.size + 1, 8, none⟩ = some (.int .i64 0) := (blk_cell BK2.out 8).trans rfl
      have hf2_8 := blk_frozen BK2.out 8
      go_wp2
      repeat (go_quiet (fail); try go_wp2)
      go_roundg (gk - 1)
      case measure => have := HA.out; omega
      case rel => exact ⟨9, rfl, ⟨by omega, by have := HA.out; omega⟩, ⟨by repeat (first | (with_reducible first | exact BK1.out | refine blk_drewN ?_ _ | refine blk_drew ?_) | refine blk_far ?_ (by show w.heap.size ≠ w.heap.size + 1; omega) _)⟩, ⟨by (with_reducible repeat (first | refine blk_drewN ?_ _ | refine blk_drew ?_)); refine blk_put (cs := #[.int .i64 (-1), .int .i64 (-1), .int .i64 (-1), .int .i64 (-1), .int .i64 (-1), .int .i64 (-1), .int .i64 1, .int .i64 1, .int .i64 (-1)]) ?_ 8 (.int .i64 1) rfl; (with_reducible repeat (first | refine blk_drewN ?_ _ | refine blk_drew ?_)); refine blk_put (cs := #[.int .i64 (-1), .int .i64 (-1), .int .i64 (-1), .int .i64 (-1), .int .i64 (-1), .int .i64 (-1), .int .i64 1, .int .i64 1, .int .i64 0]) ?_ 8 (.int .i64 (-1)) rfl; (with_reducible repeat (first | refine blk_drewN ?_ _ | refine blk_drew ?_)); exact BK2.out⟩, ⟨by repeat (first | (with_reducible first | exact HB.out | apply below_alloc | apply pw_below_drewN | apply below_drew1) | refine below_set ?_ (Nat.le_succ _))⟩⟩
set_option maxHeartbeats 1600000 in
theorem clo_eq (a b x : Int) (g : Nat) (w : World) (hc : w.cell? ⟨g, 0, none⟩ = some (.int .i64 x)) (h : a = x) :
    Calls Try.prog 52 #[.int .i64 a, .int .i64 b, .pointer (some ⟨g, 0, none⟩)] w fun e w' => e = .returned (.int .i64 1) ∧ Drawn0 w w' := by
  have e1 : (a == x) = true := by simp [h]
  go_enter Try.func52, Try.ntmps52
  go_wp2
  go_ret
  exact ⟨rfl, by repeat (first | exact Drawn0.refl _ | apply Drawn0.step)⟩
set_option maxHeartbeats 1600000 in
theorem clo_ne (a b x : Int) (g : Nat) (w : World) (hc : w.cell? ⟨g, 0, none⟩ = some (.int .i64 x)) (h : a ≠ x) :
    Calls Try.prog 52 #[.int .i64 a, .int .i64 b, .pointer (some ⟨g, 0, none⟩)] w fun e w' => e = .returned (.int .i64 (-1)) ∧ Drawn0 w w' := by
  have e1 : (a == x) = false := by simp [h]
  go_enter Try.func52, Try.ntmps52
  go_wp2
  go_ret
  exact ⟨rfl, by repeat (first | exact Drawn0.refl _ | apply Drawn0.step)⟩
set_option maxHeartbeats 1600000 in
set_option maxRecDepth 100000 in
theorem tabled_m (g : Nat) (w : World) (hc : w.cell? ⟨g, 0, none⟩ = some (.int .i64 (-1))) :
    Calls Try.prog 51 #[.func (.func 52) #[] #[.pointer (some ⟨g, 0, none⟩)]] w fun e w' => e = .returned (.agg #[.int .i64 1, .int .i64 1, .int .i64 1, .int .i64 (-1), .int .i64 (-1), .int .i64 (-1), .int .i64 (-1), .int .i64 (-1), .int .i64 (-1)]) ∧ Below w.heap.size w w' := by
  have HB := Aside0.mk (Below.refl w.heap.size w)
  have HC := Aside0.mk hc
  clear hc
  go_enter Try.func51, Try.ntmps51
  go_wp2
  go_loopg [5] 10 (fun kq v5 w' => ∃ i : Nat, v5 = .int .i64 (i : Int) ∧ Aside0 (i ≤ 9 ∧ kq = 10 - i) ∧ Aside0 (w'.heap[w.heap.size]? = some (.cells #[.int .i64 0, .int .i64 0, .int .i64 0, .int .i64 0, .int .i64 0, .int .i64 0, .int .i64 0, .int .i64 0, .int .i64 0] 23 (0, 0))) ∧ Aside0 (w'.heap[w.heap.size + 1]? = some (.cells (lits_m i) 23 (0, 0))) ∧ Aside0 (Below w.heap.size w w'))
  case atStart => exact ⟨0, rfl, ⟨by omega, rfl⟩, ⟨by repeat (first | exact blk_new _ _ | (with_reducible refine blk_drewN ?_ _) | (with_reducible refine blk_drew ?_) | refine blk_alloc ?_ _)⟩, ⟨by have h := blk_new (w.alloc (.cells #[.int .i64 0, .int .i64 0, .int .i64 0, .int .i64 0, .int .i64 0, .int .i64 0, .int .i64 0, .int .i64 0, .int .i64 0] 23)) (.cells #[.int .i64 0, .int .i64 0, .int .i64 0, .int .i64 0, .int .i64 0, .int .i64 0, .int .i64 0, .int .i64 0, .int .i64 0] 23); have e : (w.alloc (.cells #[.int .i64 0, .int .i64 0, .int .i64 0, .int .i64 0, .int .i64 0, .int .i64 0, .int .i64 0, .int .i64 0, .int .i64 0] 23)).heap.size = w.heap.size + 1 := Array.size_push _; rw [e] at h; exact h⟩, ⟨by repeat (first | (with_reducible first | exact HB.out | apply below_alloc | apply pw_below_drewN | apply below_drew1) | exact HB.out)⟩⟩
  case round =>
    obtain ⟨i, rfl, HA, BK1, BK2, HB⟩ := hrel
    have hi : i = 9 ∨ i = 0 ∨ i = 1 ∨ i = 2 ∨ i = 3 ∨ i = 4 ∨ i = 5 ∨ i = 6 ∨ i = 7 ∨ i = 8 := by have := HA.out; omega
    rcases hi with rfl | rfl | rfl | rfl | rfl | rfl | rfl | rfl | rfl | rfl
    · have hs2_0 : wr.cell? ⟨w.heap.size + 1, 0, none⟩ = some (.int .i64 1) := (blk_cell BK2.out 0).trans rfl
      have hs2_1 : wr.cell? ⟨w.heap.size + 1, 1, none⟩ = some (.int .i64 1) := (blk_cell BK2.out 1).trans rfl
      have hs2_2 : wr.cell? ⟨w.heap.size + 1, 2, none⟩ = some (.int .i64 1) := (blk_cell BK2.out 2).trans rfl
      have hs2_3 : wr.cell? ⟨w.heap.size + 1, 3, none⟩ = some (.int .i64 (-1)) := (blk_cell BK2.out 3).trans rfl
      have hs2_4 : wr.cell? ⟨w.heap.size + 1, 4, none⟩ = some (.int .i64 (-1)) := (blk_cell BK2.out 4).trans rfl
      have hs2_5 : wr.cell? ⟨w.heap.size + 1, 5, none⟩ = some (.int .i64 (-1)) := (blk_cell BK2.out 5).trans rfl
      have hs2_6 : wr.cell? ⟨w.heap.size + 1, 6, none⟩ = some (.int .i64 (-1)) := (blk_cell BK2.out 6).trans rfl
      have hs2_7 : wr.cell? ⟨w.heap.size + 1, 7, none⟩ = some (.int .i64 (-1)) := (blk_cell BK2.out 7).trans rfl
      have hs2_8 : wr.cell? ⟨w.heap.size + 1, 8, none⟩ = some (.int .i64 (-1)) := (blk_cell BK2.out 8).trans rfl
      have hf2_0 := blk_frozen BK2.out 0
      have hf2_1 := blk_frozen BK2.out 1
      have hf2_2 := blk_frozen BK2.out 2
      have hf2_3 := blk_frozen BK2.out 3
      have hf2_4 := blk_frozen BK2.out 4
      have hf2_5 := blk_frozen BK2.out 5
      have hf2_6 := blk_frozen BK2.out 6
      have hf2_7 := blk_frozen BK2.out 7
      have hf2_8 := blk_frozen BK2.out 8
      have hs1_0 : wr.cell? ⟨w.heap.size, 0, none⟩ = some (.int .i64 0) := (blk_cell BK1.out 0).trans rfl
      have hs1_1 : wr.cell? ⟨w.heap.size, 1, none⟩ = some (.int .i64 0) := (blk_cell BK1.out 1).trans rfl
      have hs1_2 : wr.cell? ⟨w.heap.size, 2, none⟩ = some (.int .i64 0) := (blk_cell BK1.out 2).trans rfl
      have hs1_3 : wr.cell? ⟨w.heap.size, 3, none⟩ = some (.int .i64 0) := (blk_cell BK1.out 3).trans rfl
      have hs1_4 : wr.cell? ⟨w.heap.size, 4, none⟩ = some (.int .i64 0) := (blk_cell BK1.out 4).trans rfl
      have hs1_5 : wr.cell? ⟨w.heap.size, 5, none⟩ = some (.int .i64 0) := (blk_cell BK1.out 5).trans rfl
      have hs1_6 : wr.cell? ⟨w.heap.size, 6, none⟩ = some (.int .i64 0) := (blk_cell BK1.out 6).trans rfl
      have hs1_7 : wr.cell? ⟨w.heap.size, 7, none⟩ = some (.int .i64 0) := (blk_cell BK1.out 7).trans rfl
      have hs1_8 : wr.cell? ⟨w.heap.size, 8, none⟩ = some (.int .i64 0) := (blk_cell BK1.out 8).trans rfl
      have hf1_0 := blk_frozen BK1.out 0
      have hf1_1 := blk_frozen BK1.out 1
      have hf1_2 := blk_frozen BK1.out 2
      have hf1_3 := blk_frozen BK1.out 3
      have hf1_4 := blk_frozen BK1.out 4
      have hf1_5 := blk_frozen BK1.out 5
      have hf1_6 := blk_frozen BK1.out 6
      have hf1_7 := blk_frozen BK1.out 7
      have hf1_8 := blk_frozen BK1.out 8
      go_wp2
      refine bodyPost_ret (v := .agg #[.int .i64 1, .int .i64 1, .int .i64 1, .int .i64 (-1), .int .i64 (-1), .int .i64 (-1), .int .i64 (-1), .int .i64 (-1), .int .i64 (-1)]) ?hr rfl ?_; (case hr => refine results_cell_row rfl _ _ w.heap.size 23 #[.int .i64 1, .int .i64 1, .int .i64 1, .int .i64 (-1), .int .i64 (-1), .int .i64 (-1), .int .i64 (-1), .int .i64 (-1), .int .i64 (-1)] (0, 0) _ rfl ?hg Try.underlying23 rfl (by kernel_rfl); (case hg => refine blk_put (cs := #[.int .i64 1, .int .i64 1, .int .i64 1, .int .i64 (-1), .int .i64 (-1), .int .i64 (-1), .int .i64 (-1), .int .i64 (-1), .int .i64 0]) ?_ 8 (.int .i64 (-1)) rfl; refine blk_put (cs := #[.int .i64 1, .int .i64 1, .int .i64 1, .int .i64 (-1), .int .i64 (-1), .int .i64 (-1), .int .i64 (-1), .int .i64 0, .int .i64 0]) ?_ 7 (.int .i64 (-1)) rfl; refine blk_put (cs := #[.int .i64 1, .int .i64 1, .int .i64 1, .int .i64 (-1), .int .i64 (-1), .int .i64 (-1), .int .i64 0, .int .i64 0, .int .i64 0]) ?_ 6 (.int .i64 (-1)) rfl; refine blk_put (cs := #[.int .i64 1, .int .i64 1, .int .i64 1, .int .i64 (-1), .int .i64 (-1), .int .i64 0, .int .i64 0, .int .i64 0, .int .i64 0]) ?_ 5 (.int .i64 (-1)) rfl; refine blk_put (cs := #[.int .i64 1, .int .i64 1, .int .i64 1, .int .i64 (-1), .int .i64 0, .int .i64 0, .int .i64 0, .int .i64 0, .int .i64 0]) ?_ 4 (.int .i64 (-1)) rfl; refine blk_put (cs := #[.int .i64 1, .int .i64 1, .int .i64 1, .int .i64 0, .int .i64 0, .int .i64 0, .int .i64 0, .int .i64 0, .int .i64 0]) ?_ 3 (.int .i64 (-1)) rfl; refine blk_put (cs := #[.int .i64 1, .int .i64 1, .int .i64 0, .int .i64 0, .int .i64 0, .int .i64 0, .int .i64 0, .int .i64 0, .int .i64 0]) ?_ 2 (.int .i64 (1)) rfl; refine blk_put (cs := #[.int .i64 1, .int .i64 0, .int .i64 0, .int .i64 0, .int .i64 0, .int .i64 0, .int .i64 0, .int .i64 0, .int .i64 0]) ?_ 1 (.int .i64 (1)) rfl; refine blk_put (cs := #[.int .i64 0, .int .i64 0, .int .i64 0, .int .i64 0, .int .i64 0, .int .i64 0, .int .i64 0, .int .i64 0, .int .i64 0]) ?_ 0 (.int .i64 (1)) rfl; exact BK1.out))
      exact ⟨rfl, below_set (below_set (below_set (below_set (below_set (below_set (below_set (below_set (below_set (HB.out) (Nat.le_refl _)) (Nat.le_refl _)) (Nat.le_refl _)) (Nat.le_refl _)) (Nat.le_refl _)) (Nat.le_refl _)) (Nat.le_refl _)) (Nat.le_refl _)) (Nat.le_refl _)⟩
    · have hs2_0 : wr.cell? ⟨w.heap.size + 1, 0, none⟩ = some (.int .i64 0) := (blk_cell BK2.out 0).trans rfl
      have hf2_0 := blk_frozen BK2.out 0
      have hcg : wr.cell? ⟨g, 0, none⟩ = some (.int .i64 (-1)) := pw_cell_below HB.out HC.out
      go_wp2_with (go_at_call 52; (with_reducible refine (clo_eq _ _ (-1) g _ ?h1 (by decide)).mono ?_); (case h1 => first | exact hcg | (simp only [World.cell?_drewN]; exact hcg)); rintro e w2 ⟨rfl, ⟨nd, rfl⟩⟩)
      repeat (go_quiet (fail); try go_wp2)
      go_roundg (gk - 1)
      case measure => have := HA.out; omega
      case rel => exact ⟨1, rfl, ⟨by omega, by have := HA.out; omega⟩, ⟨by repeat (first | (with_reducible first | exact BK1.out | refine blk_drewN ?_ _ | refine blk_drew ?_) | refine blk_far ?_ (by show w.heap.size ≠ w.heap.size + 1; omega) _)⟩, ⟨by (with_reducible repeat (first | refine blk_drewN ?_ _ | refine blk_drew ?_)); refine blk_put (cs := #[.int .i64 0, .int .i64 0, .int .i64 0, .int .i64 0, .int .i64 0, .int .i64 0, .int .i64 0, .int .i64 0, .int .i64 0]) ?_ 0 (.int .i64 1) rfl; (with_reducible repeat (first | refine blk_drewN ?_ _ | refine blk_drew ?_)); exact BK2.out⟩, ⟨by repeat (first | (with_reducible first | exact HB.out | apply below_alloc | apply pw_below_drewN | apply below_drew1) | refine below_set ?_ (Nat.le_succ _))⟩⟩
    · have hs2_1 : wr.cell? ⟨w.heap.size + 1, 1, none⟩ = some (.int .i64 0) := (blk_cell BK2.out 1).trans rfl
      have hf2_1 := blk_frozen BK2.out 1
      have hcg : wr.cell? ⟨g, 0, none⟩ = some (.int .i64 (-1)) := pw_cell_below HB.out HC.out
      go_wp2_with (go_at_call 52; (with_reducible refine (clo_eq _ _ (-1) g _ ?h1 (by decide)).mono ?_); (case h1 => first | exact hcg | (simp only [World.cell?_drewN]; exact hcg)); rintro e w2 ⟨rfl, ⟨nd, rfl⟩⟩)
      repeat (go_quiet (fail); try go_wp2)
      go_roundg (gk - 1)
      case measure => have := HA.out; omega
      case rel => exact ⟨2, rfl, ⟨by omega, by have := HA.out; omega⟩, ⟨by repeat (first | (with_reducible first | exact BK1.out | refine blk_drewN ?_ _ | refine blk_drew ?_) | refine blk_far ?_ (by show w.heap.size ≠ w.heap.size + 1; omega) _)⟩, ⟨by (with_reducible repeat (first | refine blk_drewN ?_ _ | refine blk_drew ?_)); refine blk_put (cs := #[.int .i64 1, .int .i64 0, .int .i64 0, .int .i64 0, .int .i64 0, .int .i64 0, .int .i64 0, .int .i64 0, .int .i64 0]) ?_ 1 (.int .i64 1) rfl; (with_reducible repeat (first | refine blk_drewN ?_ _ | refine blk_drew ?_)); exact BK2.out⟩, ⟨by repeat (first | (with_reducible first | exact HB.out | apply below_alloc | apply pw_below_drewN | apply below_drew1) | refine below_set ?_ (Nat.le_succ _))⟩⟩
    · have hs2_2 : wr.cell? ⟨w.heap.size + 1, 2, none⟩ = some (.int .i64 0) := (blk_cell BK2.out 2).trans rfl
      have hf2_2 := blk_frozen BK2.out 2
      have hcg : wr.cell? ⟨g, 0, none⟩ = some (.int .i64 (-1)) := pw_cell_below HB.out HC.out
      go_wp2_with (go_at_call 52; (with_reducible refine (clo_eq _ _ (-1) g _ ?h1 (by decide)).mono ?_); (case h1 => first | exact hcg | (simp only [World.cell?_drewN]; exact hcg)); rintro e w2 ⟨rfl, ⟨nd, rfl⟩⟩)
      repeat (go_quiet (fail); try go_wp2)
      go_roundg (gk - 1)
      case measure => have := HA.out; omega
      case rel => exact ⟨3, rfl, ⟨by omega, by have := HA.out; omega⟩, ⟨by repeat (first | (with_reducible first | exact BK1.out | refine blk_drewN ?_ _ | refine blk_drew ?_) | refine blk_far ?_ (by show w.heap.size ≠ w.heap.size + 1; omega) _)⟩, ⟨by (with_reducible repeat (first | refine blk_drewN ?_ _ | refine blk_drew ?_)); refine blk_put (cs := #[.int .i64 1, .int .i64 1, .int .i64 0, .int .i64 0, .int .i64 0, .int .i64 0, .int .i64 0, .int .i64 0, .int .i64 0]) ?_ 2 (.int .i64 1) rfl; (with_reducible repeat (first | refine blk_drewN ?_ _ | refine blk_drew ?_)); exact BK2.out⟩, ⟨by repeat (first | (with_reducible first | exact HB.out | apply below_alloc | apply pw_below_drewN | apply below_drew1) | refine below_set ?_ (Nat.le_succ _))⟩⟩
    · have hs2_3 : wr.cell? ⟨w.heap.size + 1, 3, none⟩ = some (.int .i64 0) := (blk_cell BK2.out 3).trans rfl
      have hf2_3 := blk_frozen BK2.out 3
      have hcg : wr.cell? ⟨g, 0, none⟩ = some (.int .i64 (-1)) := pw_cell_below HB.out HC.out
      go_wp2_with (go_at_call 52; (with_reducible refine (clo_ne _ _ (-1) g _ ?h1 (by decide)).mono ?_); (case h1 => first | exact hcg | (simp only [World.cell?_drewN]; exact hcg)); rintro e w2 ⟨rfl, ⟨nd, rfl⟩⟩)
      repeat (go_quiet (fail); try go_wp2)
      go_roundg (gk - 1)
      case measure => have := HA.out; omega
      case rel => exact ⟨4, rfl, ⟨by omega, by have := HA.out; omega⟩, ⟨by repeat (first | (with_reducible first | exact BK1.out | refine blk_drewN ?_ _ | refine blk_drew ?_) | refine blk_far ?_ (by show w.heap.size ≠ w.heap.size + 1; omega) _)⟩, ⟨by (with_reducible repeat (first | refine blk_drewN ?_ _ | refine blk_drew ?_)); refine blk_put (cs := #[.int .i64 1, .int .i64 1, .int .i64 1, .int .i64 0, .int .i64 0, .int .i64 0, .int .i64 0, .int .i64 0, .int .i64 0]) ?_ 3 (.int .i64 (-1)) rfl; (with_reducible repeat (first | refine blk_drewN ?_ _ | refine blk_drew ?_)); exact BK2.out⟩, ⟨by repeat (first | (with_reducible first | exact HB.out | apply below_alloc | apply pw_below_drewN | apply below_drew1) | refine below_set ?_ (Nat.le_succ _))⟩⟩
    · have hs2_4 : wr.cell? ⟨w.heap.size + 1, 4, none⟩ = some (.int .i64 0) := (blk_cell BK2.out 4).trans rfl
      have hf2_4 := blk_frozen BK2.out 4
      have hcg : wr.cell? ⟨g, 0, none⟩ = some (.int .i64 (-1)) := pw_cell_below HB.out HC.out
      go_wp2_with (go_at_call 52; (with_reducible refine (clo_ne _ _ (-1) g _ ?h1 (by decide)).mono ?_); (case h1 => first | exact hcg | (simp only [World.cell?_drewN]; exact hcg)); rintro e w2 ⟨rfl, ⟨nd, rfl⟩⟩)
      repeat (go_quiet (fail); try go_wp2)
      go_roundg (gk - 1)
      case measure => have := HA.out; omega
      case rel => exact ⟨5, rfl, ⟨by omega, by have := HA.out; omega⟩, ⟨by repeat (first | (with_reducible first | exact BK1.out | refine blk_drewN ?_ _ | refine blk_drew ?_) | refine blk_far ?_ (by show w.heap.size ≠ w.heap.size + 1; omega) _)⟩, ⟨by (with_reducible repeat (first | refine blk_drewN ?_ _ | refine blk_drew ?_)); refine blk_put (cs := #[.int .i64 1, .int .i64 1, .int .i64 1, .int .i64 (-1), .int .i64 0, .int .i64 0, .int .i64 0, .int .i64 0, .int .i64 0]) ?_ 4 (.int .i64 (-1)) rfl; (with_reducible repeat (first | refine blk_drewN ?_ _ | refine blk_drew ?_)); exact BK2.out⟩, ⟨by repeat (first | (with_reducible first | exact HB.out | apply below_alloc | apply pw_below_drewN | apply below_drew1) | refine below_set ?_ (Nat.le_succ _))⟩⟩
    · have hs2_5 : wr.cell? ⟨w.heap.size + 1, 5, none⟩ = some (.int .i64 0) := (blk_cell BK2.out 5).trans rfl
      have hf2_5 := blk_frozen BK2.out 5
      have hcg : wr.cell? ⟨g, 0, none⟩ = some (.int .i64 (-1)) := pw_cell_below HB.out HC.out
      go_wp2_with (go_at_call 52; (with_reducible refine (clo_ne _ _ (-1) g _ ?h1 (by decide)).mono ?_); (case h1 => first | exact hcg | (simp only [World.cell?_drewN]; exact hcg)); rintro e w2 ⟨rfl, ⟨nd, rfl⟩⟩)
      repeat (go_quiet (fail); try go_wp2)
      go_roundg (gk - 1)
      case measure => have := HA.out; omega
      case rel => exact ⟨6, rfl, ⟨by omega, by have := HA.out; omega⟩, ⟨by repeat (first | (with_reducible first | exact BK1.out | refine blk_drewN ?_ _ | refine blk_drew ?_) | refine blk_far ?_ (by show w.heap.size ≠ w.heap.size + 1; omega) _)⟩, ⟨by (with_reducible repeat (first | refine blk_drewN ?_ _ | refine blk_drew ?_)); refine blk_put (cs := #[.int .i64 1, .int .i64 1, .int .i64 1, .int .i64 (-1), .int .i64 (-1), .int .i64 0, .int .i64 0, .int .i64 0, .int .i64 0]) ?_ 5 (.int .i64 (-1)) rfl; (with_reducible repeat (first | refine blk_drewN ?_ _ | refine blk_drew ?_)); exact BK2.out⟩, ⟨by repeat (first | (with_reducible first | exact HB.out | apply below_alloc | apply pw_below_drewN | apply below_drew1) | refine below_set ?_ (Nat.le_succ _))⟩⟩
    · have hs2_6 : wr.cell? ⟨w.heap.size + 1, 6, none⟩ = some (.int .i64 0) := (blk_cell BK2.out 6).trans rfl
      have hf2_6 := blk_frozen BK2.out 6
      have hcg : wr.cell? ⟨g, 0, none⟩ = some (.int .i64 (-1)) := pw_cell_below HB.out HC.out
      go_wp2_with (go_at_call 52; (with_reducible refine (clo_ne _ _ (-1) g _ ?h1 (by decide)).mono ?_); (case h1 => first | exact hcg | (simp only [World.cell?_drewN]; exact hcg)); rintro e w2 ⟨rfl, ⟨nd, rfl⟩⟩)
      repeat (go_quiet (fail); try go_wp2)
      go_roundg (gk - 1)
      case measure => have := HA.out; omega
      case rel => exact ⟨7, rfl, ⟨by omega, by have := HA.out; omega⟩, ⟨by repeat (first | (with_reducible first | exact BK1.out | refine blk_drewN ?_ _ | refine blk_drew ?_) | refine blk_far ?_ (by show w.heap.size ≠ w.heap.size + 1; omega) _)⟩, ⟨by (with_reducible repeat (first | refine blk_drewN ?_ _ | refine blk_drew ?_)); refine blk_put (cs := #[.int .i64 1, .int .i64 1, .int .i64 1, .int .i64 (-1), .int .i64 (-1), .int .i64 (-1), .int .i64 0, .int .i64 0, .int .i64 0]) ?_ 6 (.int .i64 (-1)) rfl; (with_reducible repeat (first | refine blk_drewN ?_ _ | refine blk_drew ?_)); exact BK2.out⟩, ⟨by repeat (first | (with_reducible first | exact HB.out | apply below_alloc | apply pw_below_drewN | apply below_drew1) | refine below_set ?_ (Nat.le_succ _))⟩⟩
    · have hs2_7 : wr.cell? ⟨w.heap.size + 1, 7, none⟩ = some (.int .i64 0) := (blk_cell BK2.out 7).trans rfl
      have hf2_7 := blk_frozen BK2.out 7
      have hcg : wr.cell? ⟨g, 0, none⟩ = some (.int .i64 (-1)) := pw_cell_below HB.out HC.out
      go_wp2_with (go_at_call 52; (with_reducible refine (clo_ne _ _ (-1) g _ ?h1 (by decide)).mono ?_); (case h1 => first | exact hcg | (simp only [World.cell?_drewN]; exact hcg)); rintro e w2 ⟨rfl, ⟨nd, rfl⟩⟩)
      repeat (go_quiet (fail); try go_wp2)
      go_roundg (gk - 1)
      case measure => have := HA.out; omega
      case rel => exact ⟨8, rfl, ⟨by omega, by have := HA.out; omega⟩, ⟨by repeat (first | (with_reducible first | exact BK1.out | refine blk_drewN ?_ _ | refine blk_drew ?_) | refine blk_far ?_ (by show w.heap.size ≠ w.heap.size + 1; omega) _)⟩, ⟨by (with_reducible repeat (first | refine blk_drewN ?_ _ | refine blk_drew ?_)); refine blk_put (cs := #[.int .i64 1, .int .i64 1, .int .i64 1, .int .i64 (-1), .int .i64 (-1), .int .i64 (-1), .int .i64 (-1), .int .i64 0, .int .i64 0]) ?_ 7 (.int .i64 (-1)) rfl; (with_reducible repeat (first | refine blk_drewN ?_ _ | refine blk_drew ?_)); exact BK2.out⟩, ⟨by repeat (first | (with_reducible first | exact HB.out | apply below_alloc | apply pw_below_drewN | apply below_drew1) | refine below_set ?_ (Nat.le_succ _))⟩⟩
    · have hs2_8 : wr.cell? ⟨w.heap.size + 1, 8, none⟩ = some (.int .i64 0) := (blk_cell BK2.out 8).trans rfl
      have hf2_8 := blk_frozen BK2.out 8
      have hcg : wr.cell? ⟨g, 0, none⟩ = some (.int .i64 (-1)) := pw_cell_below HB.out HC.out
      go_wp2_with (go_at_call 52; (with_reducible refine (clo_ne _ _ (-1) g _ ?h1 (by decide)).mono ?_); (case h1 => first | exact hcg | (simp only [World.cell?_drewN]; exact hcg)); rintro e w2 ⟨rfl, ⟨nd, rfl⟩⟩)
      repeat (go_quiet (fail); try go_wp2)
      go_roundg (gk - 1)
      case measure => have := HA.out; omega
      case rel => exact ⟨9, rfl, ⟨by omega, by have := HA.out; omega⟩, ⟨by repeat (first | (with_reducible first | exact BK1.out | refine blk_drewN ?_ _ | refine blk_drew ?_) | refine blk_far ?_ (by show w.heap.size ≠ w.heap.size + 1; omega) _)⟩, ⟨by (with_reducible repeat (first | refine blk_drewN ?_ _ | refine blk_drew ?_)); refine blk_put (cs := #[.int .i64 1, .int .i64 1, .int .i64 1, .int .i64 (-1), .int .i64 (-1), .int .i64 (-1), .int .i64 (-1), .int .i64 (-1), .int .i64 0]) ?_ 8 (.int .i64 (-1)) rfl; (with_reducible repeat (first | refine blk_drewN ?_ _ | refine blk_drew ?_)); exact BK2.out⟩, ⟨by repeat (first | (with_reducible first | exact HB.out | apply below_alloc | apply pw_below_drewN | apply below_drew1) | refine below_set ?_ (Nat.le_succ _))⟩⟩
set_option maxHeartbeats 1600000 in
set_option maxRecDepth 100000 in
theorem tabled_z (g : Nat) (w : World) (hc : w.cell? ⟨g, 0, none⟩ = some (.int .i64 0)) :
    Calls Try.prog 51 #[.func (.func 52) #[] #[.pointer (some ⟨g, 0, none⟩)]] w fun e w' => e = .returned (.agg #[.int .i64 (-1), .int .i64 (-1), .int .i64 (-1), .int .i64 1, .int .i64 1, .int .i64 1, .int .i64 (-1), .int .i64 (-1), .int .i64 (-1)]) ∧ Below w.heap.size w w' := by
  have HB := Aside0.mk (Below.refl w.heap.size w)
  have HC := Aside0.mk hc
  clear hc
  go_enter Try.func51, Try.ntmps51
  go_wp2
  go_loopg [5] 10 (fun kq v5 w' => ∃ i : Nat, v5 = .int .i64 (i : Int) ∧ Aside0 (i ≤ 9 ∧ kq = 10 - i) ∧ Aside0 (w'.heap[w.heap.size]? = some (.cells #[.int .i64 0, .int .i64 0, .int .i64 0, .int .i64 0, .int .i64 0, .int .i64 0, .int .i64 0, .int .i64 0, .int .i64 0] 23 (0, 0))) ∧ Aside0 (w'.heap[w.heap.size + 1]? = some (.cells (lits_z i) 23 (0, 0))) ∧ Aside0 (Below w.heap.size w w'))
  case atStart => exact ⟨0, rfl, ⟨by omega, rfl⟩, ⟨by repeat (first | exact blk_new _ _ | (with_reducible refine blk_drewN ?_ _) | (with_reducible refine blk_drew ?_) | refine blk_alloc ?_ _)⟩, ⟨by have h := blk_new (w.alloc (.cells #[.int .i64 0, .int .i64 0, .int .i64 0, .int .i64 0, .int .i64 0, .int .i64 0, .int .i64 0, .int .i64 0, .int .i64 0] 23)) (.cells #[.int .i64 0, .int .i64 0, .int .i64 0, .int .i64 0, .int .i64 0, .int .i64 0, .int .i64 0, .int .i64 0, .int .i64 0] 23); have e : (w.alloc (.cells #[.int .i64 0, .int .i64 0, .int .i64 0, .int .i64 0, .int .i64 0, .int .i64 0, .int .i64 0, .int .i64 0, .int .i64 0] 23)).heap.size = w.heap.size + 1 := Array.size_push _; rw [e] at h; exact h⟩, ⟨by repeat (first | (with_reducible first | exact HB.out | apply below_alloc | apply pw_below_drewN | apply below_drew1) | exact HB.out)⟩⟩
  case round =>
    obtain ⟨i, rfl, HA, BK1, BK2, HB⟩ := hrel
    have hi : i = 9 ∨ i = 0 ∨ i = 1 ∨ i = 2 ∨ i = 3 ∨ i = 4 ∨ i = 5 ∨ i = 6 ∨ i = 7 ∨ i = 8 := by have := HA.out; omega
    rcases hi with rfl | rfl | rfl | rfl | rfl | rfl | rfl | rfl | rfl | rfl
    · have hs2_0 : wr.cell? ⟨w.heap.size + 1, 0, none⟩ = some (.int .i64 (-1)) := (blk_cell BK2.out 0).trans rfl
      have hs2_1 : wr.cell? ⟨w.heap.size + 1, 1, none⟩ = some (.int .i64 (-1)) := (blk_cell BK2.out 1).trans rfl
      have hs2_2 : wr.cell? ⟨w.heap.size + 1, 2, none⟩ = some (.int .i64 (-1)) := (blk_cell BK2.out 2).trans rfl
      have hs2_3 : wr.cell? ⟨w.heap.size + 1, 3, none⟩ = some (.int .i64 1) := (blk_cell BK2.out 3).trans rfl
      have hs2_4 : wr.cell? ⟨w.heap.size + 1, 4, none⟩ = some (.int .i64 1) := (blk_cell BK2.out 4).trans rfl
      have hs2_5 : wr.cell? ⟨w.heap.size + 1, 5, none⟩ = some (.int .i64 1) := (blk_cell BK2.out 5).trans rfl
      have hs2_6 : wr.cell? ⟨w.heap.size + 1, 6, none⟩ = some (.int .i64 (-1)) := (blk_cell BK2.out 6).trans rfl
      have hs2_7 : wr.cell? ⟨w.heap.size + 1, 7, none⟩ = some (.int .i64 (-1)) := (blk_cell BK2.out 7).trans rfl
      have hs2_8 : wr.cell? ⟨w.heap.size + 1, 8, none⟩ = some (.int .i64 (-1)) := (blk_cell BK2.out 8).trans rfl
      have hf2_0 := blk_frozen BK2.out 0
      have hf2_1 := blk_frozen BK2.out 1
      have hf2_2 := blk_frozen BK2.out 2
      have hf2_3 := blk_frozen BK2.out 3
      have hf2_4 := blk_frozen BK2.out 4
      have hf2_5 := blk_frozen BK2.out 5
      have hf2_6 := blk_frozen BK2.out 6
      have hf2_7 := blk_frozen BK2.out 7
      have hf2_8 := blk_frozen BK2.out 8
      have hs1_0 : wr.cell? ⟨w.heap.size, 0, none⟩ = some (.int .i64 0) := (blk_cell BK1.out 0).trans rfl
      have hs1_1 : wr.cell? ⟨w.heap.size, 1, none⟩ = some (.int .i64 0) := (blk_cell BK1.out 1).trans rfl
      have hs1_2 : wr.cell? ⟨w.heap.size, 2, none⟩ = some (.int .i64 0) := (blk_cell BK1.out 2).trans rfl
      have hs1_3 : wr.cell? ⟨w.heap.size, 3, none⟩ = some (.int .i64 0) := (blk_cell BK1.out 3).trans rfl
      have hs1_4 : wr.cell? ⟨w.heap.size, 4, none⟩ = some (.int .i64 0) := (blk_cell BK1.out 4).trans rfl
      have hs1_5 : wr.cell? ⟨w.heap.size, 5, none⟩ = some (.int .i64 0) := (blk_cell BK1.out 5).trans rfl
      have hs1_6 : wr.cell? ⟨w.heap.size, 6, none⟩ = some (.int .i64 0) := (blk_cell BK1.out 6).trans rfl
      have hs1_7 : wr.cell? ⟨w.heap.size, 7, none⟩ = some (.int .i64 0) := (blk_cell BK1.out 7).trans rfl
      have hs1_8 : wr.cell? ⟨w.heap.size, 8, none⟩ = some (.int .i64 0) := (blk_cell BK1.out 8).trans rfl
      have hf1_0 := blk_frozen BK1.out 0
      have hf1_1 := blk_frozen BK1.out 1
      have hf1_2 := blk_frozen BK1.out 2
      have hf1_3 := blk_frozen BK1.out 3
      have hf1_4 := blk_frozen BK1.out 4
      have hf1_5 := blk_frozen BK1.out 5
      have hf1_6 := blk_frozen BK1.out 6
      have hf1_7 := blk_frozen BK1.out 7
      have hf1_8 := blk_frozen BK1.out 8
      go_wp2
      refine bodyPost_ret (v := .agg #[.int .i64 (-1), .int .i64 (-1), .int .i64 (-1), .int .i64 1, .int .i64 1, .int .i64 1, .int .i64 (-1), .int .i64 (-1), .int .i64 (-1)]) ?hr rfl ?_; (case hr => refine results_cell_row rfl _ _ w.heap.size 23 #[.int .i64 (-1), .int .i64 (-1), .int .i64 (-1), .int .i64 1, .int .i64 1, .int .i64 1, .int .i64 (-1), .int .i64 (-1), .int .i64 (-1)] (0, 0) _ rfl ?hg Try.underlying23 rfl (by kernel_rfl); (case hg => refine blk_put (cs := #[.int .i64 (-1), .int .i64 (-1), .int .i64 (-1), .int .i64 1, .int .i64 1, .int .i64 1, .int .i64 (-1), .int .i64 (-1), .int .i64 0]) ?_ 8 (.int .i64 (-1)) rfl; refine blk_put (cs := #[.int .i64 (-1), .int .i64 (-1), .int .i64 (-1), .int .i64 1, .int .i64 1, .int .i64 1, .int .i64 (-1), .int .i64 0, .int .i64 0]) ?_ 7 (.int .i64 (-1)) rfl; refine blk_put (cs := #[.int .i64 (-1), .int .i64 (-1), .int .i64 (-1), .int .i64 1, .int .i64 1, .int .i64 1, .int .i64 0, .int .i64 0, .int .i64 0]) ?_ 6 (.int .i64 (-1)) rfl; refine blk_put (cs := #[.int .i64 (-1), .int .i64 (-1), .int .i64 (-1), .int .i64 1, .int .i64 1, .int .i64 0, .int .i64 0, .int .i64 0, .int .i64 0]) ?_ 5 (.int .i64 (1)) rfl; refine blk_put (cs := #[.int .i64 (-1), .int .i64 (-1), .int .i64 (-1), .int .i64 1, .int .i64 0, .int .i64 0, .int .i64 0, .int .i64 0, .int .i64 0]) ?_ 4 (.int .i64 (1)) rfl; refine blk_put (cs := #[.int .i64 (-1), .int .i64 (-1), .int .i64 (-1), .int .i64 0, .int .i64 0, .int .i64 0, .int .i64 0, .int .i64 0, .int .i64 0]) ?_ 3 (.int .i64 (1)) rfl; refine blk_put (cs := #[.int .i64 (-1), .int .i64 (-1), .int .i64 0, .int .i64 0, .int .i64 0, .int .i64 0, .int .i64 0, .int .i64 0, .int .i64 0]) ?_ 2 (.int .i64 (-1)) rfl; refine blk_put (cs := #[.int .i64 (-1), .int .i64 0, .int .i64 0, .int .i64 0, .int .i64 0, .int .i64 0, .int .i64 0, .int .i64 0, .int .i64 0]) ?_ 1 (.int .i64 (-1)) rfl; refine blk_put (cs := #[.int .i64 0, .int .i64 0, .int .i64 0, .int .i64 0, .int .i64 0, .int .i64 0, .int .i64 0, .int .i64 0, .int .i64 0]) ?_ 0 (.int .i64 (-1)) rfl; exact BK1.out))
      exact ⟨rfl, below_set (below_set (below_set (below_set (below_set (below_set (below_set (below_set (below_set (HB.out) (Nat.le_refl _)) (Nat.le_refl _)) (Nat.le_refl _)) (Nat.le_refl _)) (Nat.le_refl _)) (Nat.le_refl _)) (Nat.le_refl _)) (Nat.le_refl _)) (Nat.le_refl _)⟩
    · have hs2_0 : wr.cell? ⟨w.heap.size + 1, 0, none⟩ = some (.int .i64 0) := (blk_cell BK2.out 0).trans rfl
      have hf2_0 := blk_frozen BK2.out 0
      have hcg : wr.cell? ⟨g, 0, none⟩ = some (.int .i64 0) := pw_cell_below HB.out HC.out
      go_wp2_with (go_at_call 52; (with_reducible refine (clo_ne _ _ 0 g _ ?h1 (by decide)).mono ?_); (case h1 => first | exact hcg | (simp only [World.cell?_drewN]; exact hcg)); rintro e w2 ⟨rfl, ⟨nd, rfl⟩⟩)
      repeat (go_quiet (fail); try go_wp2)
      go_roundg (gk - 1)
      case measure => have := HA.out; omega
      case rel => exact ⟨1, rfl, ⟨by omega, by have := HA.out; omega⟩, ⟨by repeat (first | (with_reducible first | exact BK1.out | refine blk_drewN ?_ _ | refine blk_drew ?_) | refine blk_far ?_ (by show w.heap.size ≠ w.heap.size + 1; omega) _)⟩, ⟨by (with_reducible repeat (first | refine blk_drewN ?_ _ | refine blk_drew ?_)); refine blk_put (cs := #[.int .i64 0, .int .i64 0, .int .i64 0, .int .i64 0, .int .i64 0, .int .i64 0, .int .i64 0, .int .i64 0, .int .i64 0]) ?_ 0 (.int .i64 (-1)) rfl; (with_reducible repeat (first | refine blk_drewN ?_ _ | refine blk_drew ?_)); exact BK2.out⟩, ⟨by repeat (first | (with_reducible first | exact HB.out | apply below_alloc | apply pw_below_drewN | apply below_drew1) | refine below_set ?_ (Nat.le_succ _))⟩⟩
    · have hs2_1 : wr.cell? ⟨w.heap.size + 1, 1, none⟩ = some (.int .i64 0) := (blk_cell BK2.out 1).trans rfl
      have hf2_1 := blk_frozen BK2.out 1
      have hcg : wr.cell? ⟨g, 0, none⟩ = some (.int .i64 0) := pw_cell_below HB.out HC.out
      go_wp2_with (go_at_call 52; (with_reducible refine (clo_ne _ _ 0 g _ ?h1 (by decide)).mono ?_); (case h1 => first | exact hcg | (simp only [World.cell?_drewN]; exact hcg)); rintro e w2 ⟨rfl, ⟨nd, rfl⟩⟩)
      repeat (go_quiet (fail); try go_wp2)
      go_roundg (gk - 1)
      case measure => have := HA.out; omega
      case rel => exact ⟨2, rfl, ⟨by omega, by have := HA.out; omega⟩, ⟨by repeat (first | (with_reducible first | exact BK1.out | refine blk_drewN ?_ _ | refine blk_drew ?_) | refine blk_far ?_ (by show w.heap.size ≠ w.heap.size + 1; omega) _)⟩, ⟨by (with_reducible repeat (first | refine blk_drewN ?_ _ | refine blk_drew ?_)); refine blk_put (cs := #[.int .i64 (-1), .int .i64 0, .int .i64 0, .int .i64 0, .int .i64 0, .int .i64 0, .int .i64 0, .int .i64 0, .int .i64 0]) ?_ 1 (.int .i64 (-1)) rfl; (with_reducible repeat (first | refine blk_drewN ?_ _ | refine blk_drew ?_)); exact BK2.out⟩, ⟨by repeat (first | (with_reducible first | exact HB.out | apply below_alloc | apply pw_below_drewN | apply below_drew1) | refine below_set ?_ (Nat.le_succ _))⟩⟩
    · have hs2_2 : wr.cell? ⟨w.heap.size + 1, 2, none⟩ = some (.int .i64 0) := (blk_cell BK2.out 2).trans rfl
      have hf2_2 := blk_frozen BK2.out 2
      have hcg : wr.cell? ⟨g, 0, none⟩ = some (.int .i64 0) := pw_cell_below HB.out HC.out
      go_wp2_with (go_at_call 52; (with_reducible refine (clo_ne _ _ 0 g _ ?h1 (by decide)).mono ?_); (case h1 => first | exact hcg | (simp only [World.cell?_drewN]; exact hcg)); rintro e w2 ⟨rfl, ⟨nd, rfl⟩⟩)
      repeat (go_quiet (fail); try go_wp2)
      go_roundg (gk - 1)
      case measure => have := HA.out; omega
      case rel => exact ⟨3, rfl, ⟨by omega, by have := HA.out; omega⟩, ⟨by repeat (first | (with_reducible first | exact BK1.out | refine blk_drewN ?_ _ | refine blk_drew ?_) | refine blk_far ?_ (by show w.heap.size ≠ w.heap.size + 1; omega) _)⟩, ⟨by (with_reducible repeat (first | refine blk_drewN ?_ _ | refine blk_drew ?_)); refine blk_put (cs := #[.int .i64 (-1), .int .i64 (-1), .int .i64 0, .int .i64 0, .int .i64 0, .int .i64 0, .int .i64 0, .int .i64 0, .int .i64 0]) ?_ 2 (.int .i64 (-1)) rfl; (with_reducible repeat (first | refine blk_drewN ?_ _ | refine blk_drew ?_)); exact BK2.out⟩, ⟨by repeat (first | (with_reducible first | exact HB.out | apply below_alloc | apply pw_below_drewN | apply below_drew1) | refine below_set ?_ (Nat.le_succ _))⟩⟩
    · have hs2_3 : wr.cell? ⟨w.heap.size + 1, 3, none⟩ = some (.int .i64 0) := (blk_cell BK2.out 3).trans rfl
      have hf2_3 := blk_frozen BK2.out 3
      have hcg : wr.cell? ⟨g, 0, none⟩ = some (.int .i64 0) := pw_cell_below HB.out HC.out
      go_wp2_with (go_at_call 52; (with_reducible refine (clo_eq _ _ 0 g _ ?h1 (by decide)).mono ?_); (case h1 => first | exact hcg | (simp only [World.cell?_drewN]; exact hcg)); rintro e w2 ⟨rfl, ⟨nd, rfl⟩⟩)
      repeat (go_quiet (fail); try go_wp2)
      go_roundg (gk - 1)
      case measure => have := HA.out; omega
      case rel => exact ⟨4, rfl, ⟨by omega, by have := HA.out; omega⟩, ⟨by repeat (first | (with_reducible first | exact BK1.out | refine blk_drewN ?_ _ | refine blk_drew ?_) | refine blk_far ?_ (by show w.heap.size ≠ w.heap.size + 1; omega) _)⟩, ⟨by (with_reducible repeat (first | refine blk_drewN ?_ _ | refine blk_drew ?_)); refine blk_put (cs := #[.int .i64 (-1), .int .i64 (-1), .int .i64 (-1), .int .i64 0, .int .i64 0, .int .i64 0, .int .i64 0, .int .i64 0, .int .i64 0]) ?_ 3 (.int .i64 1) rfl; (with_reducible repeat (first | refine blk_drewN ?_ _ | refine blk_drew ?_)); exact BK2.out⟩, ⟨by repeat (first | (with_reducible first | exact HB.out | apply below_alloc | apply pw_below_drewN | apply below_drew1) | refine below_set ?_ (Nat.le_succ _))⟩⟩
    · have hs2_4 : wr.cell? ⟨w.heap.size + 1, 4, none⟩ = some (.int .i64 0) := (blk_cell BK2.out 4).trans rfl
      have hf2_4 := blk_frozen BK2.out 4
      have hcg : wr.cell? ⟨g, 0, none⟩ = some (.int .i64 0) := pw_cell_below HB.out HC.out
      go_wp2_with (go_at_call 52; (with_reducible refine (clo_eq _ _ 0 g _ ?h1 (by decide)).mono ?_); (case h1 => first | exact hcg | (simp only [World.cell?_drewN]; exact hcg)); rintro e w2 ⟨rfl, ⟨nd, rfl⟩⟩)
      repeat (go_quiet (fail); try go_wp2)
      go_roundg (gk - 1)
      case measure => have := HA.out; omega
      case rel => exact ⟨5, rfl, ⟨by omega, by have := HA.out; omega⟩, ⟨by repeat (first | (with_reducible first | exact BK1.out | refine blk_drewN ?_ _ | refine blk_drew ?_) | refine blk_far ?_ (by show w.heap.size ≠ w.heap.size + 1; omega) _)⟩, ⟨by (with_reducible repeat (first | refine blk_drewN ?_ _ | refine blk_drew ?_)); refine blk_put (cs := #[.int .i64 (-1), .int .i64 (-1), .int .i64 (-1), .int .i64 1, .int .i64 0, .int .i64 0, .int .i64 0, .int .i64 0, .int .i64 0]) ?_ 4 (.int .i64 1) rfl; (with_reducible repeat (first | refine blk_drewN ?_ _ | refine blk_drew ?_)); exact BK2.out⟩, ⟨by repeat (first | (with_reducible first | exact HB.out | apply below_alloc | apply pw_below_drewN | apply below_drew1) | refine below_set ?_ (Nat.le_succ _))⟩⟩
    · have hs2_5 : wr.cell? ⟨w.heap.size + 1, 5, none⟩ = some (.int .i64 0) := (blk_cell BK2.out 5).trans rfl
      have hf2_5 := blk_frozen BK2.out 5
      have hcg : wr.cell? ⟨g, 0, none⟩ = some (.int .i64 0) := pw_cell_below HB.out HC.out
      go_wp2_with (go_at_call 52; (with_reducible refine (clo_eq _ _ 0 g _ ?h1 (by decide)).mono ?_); (case h1 => first | exact hcg | (simp only [World.cell?_drewN]; exact hcg)); rintro e w2 ⟨rfl, ⟨nd, rfl⟩⟩)
      repeat (go_quiet (fail); try go_wp2)
      go_roundg (gk - 1)
      case measure => have := HA.out; omega
      case rel => exact ⟨6, rfl, ⟨by omega, by have := HA.out; omega⟩, ⟨by repeat (first | (with_reducible first | exact BK1.out | refine blk_drewN ?_ _ | refine blk_drew ?_) | refine blk_far ?_ (by show w.heap.size ≠ w.heap.size + 1; omega) _)⟩, ⟨by (with_reducible repeat (first | refine blk_drewN ?_ _ | refine blk_drew ?_)); refine blk_put (cs := #[.int .i64 (-1), .int .i64 (-1), .int .i64 (-1), .int .i64 1, .int .i64 1, .int .i64 0, .int .i64 0, .int .i64 0, .int .i64 0]) ?_ 5 (.int .i64 1) rfl; (with_reducible repeat (first | refine blk_drewN ?_ _ | refine blk_drew ?_)); exact BK2.out⟩, ⟨by repeat (first | (with_reducible first | exact HB.out | apply below_alloc | apply pw_below_drewN | apply below_drew1) | refine below_set ?_ (Nat.le_succ _))⟩⟩
    · have hs2_6 : wr.cell? ⟨w.heap.size + 1, 6, none⟩ = some (.int .i64 0) := (blk_cell BK2.out 6).trans rfl
      have hf2_6 := blk_frozen BK2.out 6
      have hcg : wr.cell? ⟨g, 0, none⟩ = some (.int .i64 0) := pw_cell_below HB.out HC.out
      go_wp2_with (go_at_call 52; (with_reducible refine (clo_ne _ _ 0 g _ ?h1 (by decide)).mono ?_); (case h1 => first | exact hcg | (simp only [World.cell?_drewN]; exact hcg)); rintro e w2 ⟨rfl, ⟨nd, rfl⟩⟩)
      repeat (go_quiet (fail); try go_wp2)
      go_roundg (gk - 1)
      case measure => have := HA.out; omega
      case rel => exact ⟨7, rfl, ⟨by omega, by have := HA.out; omega⟩, ⟨by repeat (first | (with_reducible first | exact BK1.out | refine blk_drewN ?_ _ | refine blk_drew ?_) | refine blk_far ?_ (by show w.heap.size ≠ w.heap.size + 1; omega) _)⟩, ⟨by (with_reducible repeat (first | refine blk_drewN ?_ _ | refine blk_drew ?_)); refine blk_put (cs := #[.int .i64 (-1), .int .i64 (-1), .int .i64 (-1), .int .i64 1, .int .i64 1, .int .i64 1, .int .i64 0, .int .i64 0, .int .i64 0]) ?_ 6 (.int .i64 (-1)) rfl; (with_reducible repeat (first | refine blk_drewN ?_ _ | refine blk_drew ?_)); exact BK2.out⟩, ⟨by repeat (first | (with_reducible first | exact HB.out | apply below_alloc | apply pw_below_drewN | apply below_drew1) | refine below_set ?_ (Nat.le_succ _))⟩⟩
    · have hs2_7 : wr.cell? ⟨w.heap.size + 1, 7, none⟩ = some (.int .i64 0) := (blk_cell BK2.out 7).trans rfl
      have hf2_7 := blk_frozen BK2.out 7
      have hcg : wr.cell? ⟨g, 0, none⟩ = some (.int .i64 0) := pw_cell_below HB.out HC.out
      go_wp2_with (go_at_call 52; (with_reducible refine (clo_ne _ _ 0 g _ ?h1 (by decide)).mono ?_); (case h1 => first | exact hcg | (simp only [World.cell?_drewN]; exact hcg)); rintro e w2 ⟨rfl, ⟨nd, rfl⟩⟩)
      repeat (go_quiet (fail); try go_wp2)
      go_roundg (gk - 1)
      case measure => have := HA.out; omega
      case rel => exact ⟨8, rfl, ⟨by omega, by have := HA.out; omega⟩, ⟨by repeat (first | (with_reducible first | exact BK1.out | refine blk_drewN ?_ _ | refine blk_drew ?_) | refine blk_far ?_ (by show w.heap.size ≠ w.heap.size + 1; omega) _)⟩, ⟨by (with_reducible repeat (first | refine blk_drewN ?_ _ | refine blk_drew ?_)); refine blk_put (cs := #[.int .i64 (-1), .int .i64 (-1), .int .i64 (-1), .int .i64 1, .int .i64 1, .int .i64 1, .int .i64 (-1), .int .i64 0, .int .i64 0]) ?_ 7 (.int .i64 (-1)) rfl; (with_reducible repeat (first | refine blk_drewN ?_ _ | refine blk_drew ?_)); exact BK2.out⟩, ⟨by repeat (first | (with_reducible first | exact HB.out | apply below_alloc | apply pw_below_drewN | apply below_drew1) | refine below_set ?_ (Nat.le_succ _))⟩⟩
    · have hs2_8 : wr.cell? ⟨w.heap.size + 1, 8, none⟩ = some (.int .i64 0) := (blk_cell BK2.out 8).trans rfl
      have hf2_8 := blk_frozen BK2.out 8
      have hcg : wr.cell? ⟨g, 0, none⟩ = some (.int .i64 0) := pw_cell_below HB.out HC.out
      go_wp2_with (go_at_call 52; (with_reducible refine (clo_ne _ _ 0 g _ ?h1 (by decide)).mono ?_); (case h1 => first | exact hcg | (simp only [World.cell?_drewN]; exact hcg)); rintro e w2 ⟨rfl, ⟨nd, rfl⟩⟩)
      repeat (go_quiet (fail); try go_wp2)
      go_roundg (gk - 1)
      case measure => have := HA.out; omega
      case rel => exact ⟨9, rfl, ⟨by omega, by have := HA.out; omega⟩, ⟨by repeat (first | (with_reducible first | exact BK1.out | refine blk_drewN ?_ _ | refine blk_drew ?_) | refine blk_far ?_ (by show w.heap.size ≠ w.heap.size + 1; omega) _)⟩, ⟨by (with_reducible repeat (first | refine blk_drewN ?_ _ | refine blk_drew ?_)); refine blk_put (cs := #[.int .i64 (-1), .int .i64 (-1), .int .i64 (-1), .int .i64 1, .int .i64 1, .int .i64 1, .int .i64 (-1), .int .i64 (-1), .int .i64 0]) ?_ 8 (.int .i64 (-1)) rfl; (with_reducible repeat (first | refine blk_drewN ?_ _ | refine blk_drew ?_)); exact BK2.out⟩, ⟨by repeat (first | (with_reducible first | exact HB.out | apply below_alloc | apply pw_below_drewN | apply below_drew1) | refine below_set ?_ (Nat.le_succ _))⟩⟩
set_option maxHeartbeats 1600000 in
set_option maxRecDepth 100000 in
theorem tabled_p (g : Nat) (w : World) (hc : w.cell? ⟨g, 0, none⟩ = some (.int .i64 1)) :
    Calls Try.prog 51 #[.func (.func 52) #[] #[.pointer (some ⟨g, 0, none⟩)]] w fun e w' => e = .returned (.agg #[.int .i64 (-1), .int .i64 (-1), .int .i64 (-1), .int .i64 (-1), .int .i64 (-1), .int .i64 (-1), .int .i64 1, .int .i64 1, .int .i64 1]) ∧ Below w.heap.size w w' := by
  have HB := Aside0.mk (Below.refl w.heap.size w)
  have HC := Aside0.mk hc
  clear hc
  go_enter Try.func51, Try.ntmps51
  go_wp2
  go_loopg [5] 10 (fun kq v5 w' => ∃ i : Nat, v5 = .int .i64 (i : Int) ∧ Aside0 (i ≤ 9 ∧ kq = 10 - i) ∧ Aside0 (w'.heap[w.heap.size]? = some (.cells #[.int .i64 0, .int .i64 0, .int .i64 0, .int .i64 0, .int .i64 0, .int .i64 0, .int .i64 0, .int .i64 0, .int .i64 0] 23 (0, 0))) ∧ Aside0 (w'.heap[w.heap.size + 1]? = some (.cells (lits_p i) 23 (0, 0))) ∧ Aside0 (Below w.heap.size w w'))
  case atStart => exact ⟨0, rfl, ⟨by omega, rfl⟩, ⟨by repeat (first | exact blk_new _ _ | (with_reducible refine blk_drewN ?_ _) | (with_reducible refine blk_drew ?_) | refine blk_alloc ?_ _)⟩, ⟨by have h := blk_new (w.alloc (.cells #[.int .i64 0, .int .i64 0, .int .i64 0, .int .i64 0, .int .i64 0, .int .i64 0, .int .i64 0, .int .i64 0, .int .i64 0] 23)) (.cells #[.int .i64 0, .int .i64 0, .int .i64 0, .int .i64 0, .int .i64 0, .int .i64 0, .int .i64 0, .int .i64 0, .int .i64 0] 23); have e : (w.alloc (.cells #[.int .i64 0, .int .i64 0, .int .i64 0, .int .i64 0, .int .i64 0, .int .i64 0, .int .i64 0, .int .i64 0, .int .i64 0] 23)).heap.size = w.heap.size + 1 := Array.size_push _; rw [e] at h; exact h⟩, ⟨by repeat (first | (with_reducible first | exact HB.out | apply below_alloc | apply pw_below_drewN | apply below_drew1) | exact HB.out)⟩⟩
  case round =>
    obtain ⟨i, rfl, HA, BK1, BK2, HB⟩ := hrel
    have hi : i = 9 ∨ i = 0 ∨ i = 1 ∨ i = 2 ∨ i = 3 ∨ i = 4 ∨ i = 5 ∨ i = 6 ∨ i = 7 ∨ i = 8 := by have := HA.out; omega
    rcases hi with rfl | rfl | rfl | rfl | rfl | rfl | rfl | rfl | rfl | rfl
    · have hs2_0 : wr.cell? ⟨w.heap.size + 1, 0, none⟩ = some (.int .i64 (-1)) := (blk_cell BK2.out 0).trans rfl
      have hs2_1 : wr.cell? ⟨w.heap.size + 1, 1, none⟩ = some (.int .i64 (-1)) := (blk_cell BK2.out 1).trans rfl
      have hs2_2 : wr.cell? ⟨w.heap.size + 1, 2, none⟩ = some (.int .i64 (-1)) := (blk_cell BK2.out 2).trans rfl
      have hs2_3 : wr.cell? ⟨w.heap.size + 1, 3, none⟩ = some (.int .i64 (-1)) := (blk_cell BK2.out 3).trans rfl
      have hs2_4 : wr.cell? ⟨w.heap.size + 1, 4, none⟩ = some (.int .i64 (-1)) := (blk_cell BK2.out 4).trans rfl
      have hs2_5 : wr.cell? ⟨w.heap.size + 1, 5, none⟩ = some (.int .i64 (-1)) := (blk_cell BK2.out 5).trans rfl
      have hs2_6 : wr.cell? ⟨w.heap.size + 1, 6, none⟩ = some (.int .i64 1) := (blk_cell BK2.out 6).trans rfl
      have hs2_7 : wr.cell? ⟨w.heap.size + 1, 7, none⟩ = some (.int .i64 1) := (blk_cell BK2.out 7).trans rfl
      have hs2_8 : wr.cell? ⟨w.heap.size + 1, 8, none⟩ = some (.int .i64 1) := (blk_cell BK2.out 8).trans rfl
      have hf2_0 := blk_frozen BK2.out 0
      have hf2_1 := blk_frozen BK2.out 1
      have hf2_2 := blk_frozen BK2.out 2
      have hf2_3 := blk_frozen BK2.out 3
      have hf2_4 := blk_frozen BK2.out 4
      have hf2_5 := blk_frozen BK2.out 5
      have hf2_6 := blk_frozen BK2.out 6
      have hf2_7 := blk_frozen BK2.out 7
      have hf2_8 := blk_frozen BK2.out 8
      have hs1_0 : wr.cell? ⟨w.heap.size, 0, none⟩ = some (.int .i64 0) := (blk_cell BK1.out 0).trans rfl
      have hs1_1 : wr.cell? ⟨w.heap.size, 1, none⟩ = some (.int .i64 0) := (blk_cell BK1.out 1).trans rfl
      have hs1_2 : wr.cell? ⟨w.heap.size, 2, none⟩ = some (.int .i64 0) := (blk_cell BK1.out 2).trans rfl
      have hs1_3 : wr.cell? ⟨w.heap.size, 3, none⟩ = some (.int .i64 0) := (blk_cell BK1.out 3).trans rfl
      have hs1_4 : wr.cell? ⟨w.heap.size, 4, none⟩ = some (.int .i64 0) := (blk_cell BK1.out 4).trans rfl
      have hs1_5 : wr.cell? ⟨w.heap.size, 5, none⟩ = some (.int .i64 0) := (blk_cell BK1.out 5).trans rfl
      have hs1_6 : wr.cell? ⟨w.heap.size, 6, none⟩ = some (.int .i64 0) := (blk_cell BK1.out 6).trans rfl
      have hs1_7 : wr.cell? ⟨w.heap.size, 7, none⟩ = some (.int .i64 0) := (blk_cell BK1.out 7).trans rfl
      have hs1_8 : wr.cell? ⟨w.heap.size, 8, none⟩ = some (.int .i64 0) := (blk_cell BK1.out 8).trans rfl
      have hf1_0 := blk_frozen BK1.out 0
      have hf1_1 := blk_frozen BK1.out 1
      have hf1_2 := blk_frozen BK1.out 2
      have hf1_3 := blk_frozen BK1.out 3
      have hf1_4 := blk_frozen BK1.out 4
      have hf1_5 := blk_frozen BK1.out 5
      have hf1_6 := blk_frozen BK1.out 6
      have hf1_7 := blk_frozen BK1.out 7
      have hf1_8 := blk_frozen BK1.out 8
      go_wp2
      refine bodyPost_ret (v := .agg #[.int .i64 (-1), .int .i64 (-1), .int .i64 (-1), .int .i64 (-1), .int .i64 (-1), .int .i64 (-1), .int .i64 1, .int .i64 1, .int .i64 1]) ?hr rfl ?_; (case hr => refine results_cell_row rfl _ _ w.heap.size 23 #[.int .i64 (-1), .int .i64 (-1), .int .i64 (-1), .int .i64 (-1), .int .i64 (-1), .int .i64 (-1), .int .i64 1, .int .i64 1, .int .i64 1] (0, 0) _ rfl ?hg Try.underlying23 rfl (by kernel_rfl); (case hg => refine blk_put (cs := #[.int .i64 (-1), .int .i64 (-1), .int .i64 (-1), .int .i64 (-1), .int .i64 (-1), .int .i64 (-1), .int .i64 1, .int .i64 1, .int .i64 0]) ?_ 8 (.int .i64 (1)) rfl; refine blk_put (cs := #[.int .i64 (-1), .int .i64 (-1), .int .i64 (-1), .int .i64 (-1), .int .i64 (-1), .int .i64 (-1), .int .i64 1, .int .i64 0, .int .i64 0]) ?_ 7 (.int .i64 (1)) rfl; refine blk_put (cs := #[.int .i64 (-1), .int .i64 (-1), .int .i64 (-1), .int .i64 (-1), .int .i64 (-1), .int .i64 (-1), .int .i64 0, .int .i64 0, .int .i64 0]) ?_ 6 (.int .i64 (1)) rfl; refine blk_put (cs := #[.int .i64 (-1), .int .i64 (-1), .int .i64 (-1), .int .i64 (-1), .int .i64 (-1), .int .i64 0, .int .i64 0, .int .i64 0, .int .i64 0]) ?_ 5 (.int .i64 (-1)) rfl; refine blk_put (cs := #[.int .i64 (-1), .int .i64 (-1), .int .i64 (-1), .int .i64 (-1), .int .i64 0, .int .i64 0, .int .i64 0, .int .i64 0, .int .i64 0]) ?_ 4 (.int .i64 (-1)) rfl; refine blk_put (cs := #[.int .i64 (-1), .int .i64 (-1), .int .i64 (-1), .int .i64 0, .int .i64 0, .int .i64 0, .int .i64 0, .int .i64 0, .int .i64 0]) ?_ 3 (.int .i64 (-1)) rfl; refine blk_put (cs := #[.int .i64 (-1), .int .i64 (-1), .int .i64 0, .int .i64 0, .int .i64 0, .int .i64 0, .int .i64 0, .int .i64 0, .int .i64 0]) ?_ 2 (.int .i64 (-1)) rfl; refine blk_put (cs := #[.int .i64 (-1), .int .i64 0, .int .i64 0, .int .i64 0, .int .i64 0, .int .i64 0, .int .i64 0, .int .i64 0, .int .i64 0]) ?_ 1 (.int .i64 (-1)) rfl; refine blk_put (cs := #[.int .i64 0, .int .i64 0, .int .i64 0, .int .i64 0, .int .i64 0, .int .i64 0, .int .i64 0, .int .i64 0, .int .i64 0]) ?_ 0 (.int .i64 (-1)) rfl; exact BK1.out))
      exact ⟨rfl, below_set (below_set (below_set (below_set (below_set (below_set (below_set (below_set (below_set (HB.out) (Nat.le_refl _)) (Nat.le_refl _)) (Nat.le_refl _)) (Nat.le_refl _)) (Nat.le_refl _)) (Nat.le_refl _)) (Nat.le_refl _)) (Nat.le_refl _)) (Nat.le_refl _)⟩
    · have hs2_0 : wr.cell? ⟨w.heap.size + 1, 0, none⟩ = some (.int .i64 0) := (blk_cell BK2.out 0).trans rfl
      have hf2_0 := blk_frozen BK2.out 0
      have hcg : wr.cell? ⟨g, 0, none⟩ = some (.int .i64 1) := pw_cell_below HB.out HC.out
      go_wp2_with (go_at_call 52; (with_reducible refine (clo_ne _ _ 1 g _ ?h1 (by decide)).mono ?_); (case h1 => first | exact hcg | (simp only [World.cell?_drewN]; exact hcg)); rintro e w2 ⟨rfl, ⟨nd, rfl⟩⟩)
      repeat (go_quiet (fail); try go_wp2)
      go_roundg (gk - 1)
      case measure => have := HA.out; omega
      case rel => exact ⟨1, rfl, ⟨by omega, by have := HA.out; omega⟩, ⟨by repeat (first | (with_reducible first | exact BK1.out | refine blk_drewN ?_ _ | refine blk_drew ?_) | refine blk_far ?_ (by show w.heap.size ≠ w.heap.size + 1; omega) _)⟩, ⟨by (with_reducible repeat (first | refine blk_drewN ?_ _ | refine blk_drew ?_)); refine blk_put (cs := #[.int .i64 0, .int .i64 0, .int .i64 0, .int .i64 0, .int .i64 0, .int .i64 0, .int .i64 0, .int .i64 0, .int .i64 0]) ?_ 0 (.int .i64 (-1)) rfl; (with_reducible repeat (first | refine blk_drewN ?_ _ | refine blk_drew ?_)); exact BK2.out⟩, ⟨by repeat (first | (with_reducible first | exact HB.out | apply below_alloc | apply pw_below_drewN | apply below_drew1) | refine below_set ?_ (Nat.le_succ _))⟩⟩
    · have hs2_1 : wr.cell? ⟨w.heap.size + 1, 1, none⟩ = some (.int .i64 0) := (blk_cell BK2.out 1).trans rfl
      have hf2_1 := blk_frozen BK2.out 1
      have hcg : wr.cell? ⟨g, 0, none⟩ = some (.int .i64 1) := pw_cell_below HB.out HC.out
      go_wp2_with (go_at_call 52; (with_reducible refine (clo_ne _ _ 1 g _ ?h1 (by decide)).mono ?_); (case h1 => first | exact hcg | (simp only [World.cell?_drewN]; exact hcg)); rintro e w2 ⟨rfl, ⟨nd, rfl⟩⟩)
      repeat (go_quiet (fail); try go_wp2)
      go_roundg (gk - 1)
      case measure => have := HA.out; omega
      case rel => exact ⟨2, rfl, ⟨by omega, by have := HA.out; omega⟩, ⟨by repeat (first | (with_reducible first | exact BK1.out | refine blk_drewN ?_ _ | refine blk_drew ?_) | refine blk_far ?_ (by show w.heap.size ≠ w.heap.size + 1; omega) _)⟩, ⟨by (with_reducible repeat (first | refine blk_drewN ?_ _ | refine blk_drew ?_)); refine blk_put (cs := #[.int .i64 (-1), .int .i64 0, .int .i64 0, .int .i64 0, .int .i64 0, .int .i64 0, .int .i64 0, .int .i64 0, .int .i64 0]) ?_ 1 (.int .i64 (-1)) rfl; (with_reducible repeat (first | refine blk_drewN ?_ _ | refine blk_drew ?_)); exact BK2.out⟩, ⟨by repeat (first | (with_reducible first | exact HB.out | apply below_alloc | apply pw_below_drewN | apply below_drew1) | refine below_set ?_ (Nat.le_succ _))⟩⟩
    · have hs2_2 : wr.cell? ⟨w.heap.size + 1, 2, none⟩ = some (.int .i64 0) := (blk_cell BK2.out 2).trans rfl
      have hf2_2 := blk_frozen BK2.out 2
      have hcg : wr.cell? ⟨g, 0, none⟩ = some (.int .i64 1) := pw_cell_below HB.out HC.out
      go_wp2_with (go_at_call 52; (with_reducible refine (clo_ne _ _ 1 g _ ?h1 (by decide)).mono ?_); (case h1 => first | exact hcg | (simp only [World.cell?_drewN]; exact hcg)); rintro e w2 ⟨rfl, ⟨nd, rfl⟩⟩)
      repeat (go_quiet (fail); try go_wp2)
      go_roundg (gk - 1)
      case measure => have := HA.out; omega
      case rel => exact ⟨3, rfl, ⟨by omega, by have := HA.out; omega⟩, ⟨by repeat (first | (with_reducible first | exact BK1.out | refine blk_drewN ?_ _ | refine blk_drew ?_) | refine blk_far ?_ (by show w.heap.size ≠ w.heap.size + 1; omega) _)⟩, ⟨by (with_reducible repeat (first | refine blk_drewN ?_ _ | refine blk_drew ?_)); refine blk_put (cs := #[.int .i64 (-1), .int .i64 (-1), .int .i64 0, .int .i64 0, .int .i64 0, .int .i64 0, .int .i64 0, .int .i64 0, .int .i64 0]) ?_ 2 (.int .i64 (-1)) rfl; (with_reducible repeat (first | refine blk_drewN ?_ _ | refine blk_drew ?_)); exact BK2.out⟩, ⟨by repeat (first | (with_reducible first | exact HB.out | apply below_alloc | apply pw_below_drewN | apply below_drew1) | refine below_set ?_ (Nat.le_succ _))⟩⟩
    · have hs2_3 : wr.cell? ⟨w.heap.size + 1, 3, none⟩ = some (.int .i64 0) := (blk_cell BK2.out 3).trans rfl
      have hf2_3 := blk_frozen BK2.out 3
      have hcg : wr.cell? ⟨g, 0, none⟩ = some (.int .i64 1) := pw_cell_below HB.out HC.out
      go_wp2_with (go_at_call 52; (with_reducible refine (clo_ne _ _ 1 g _ ?h1 (by decide)).mono ?_); (case h1 => first | exact hcg | (simp only [World.cell?_drewN]; exact hcg)); rintro e w2 ⟨rfl, ⟨nd, rfl⟩⟩)
      repeat (go_quiet (fail); try go_wp2)
      go_roundg (gk - 1)
      case measure => have := HA.out; omega
      case rel => exact ⟨4, rfl, ⟨by omega, by have := HA.out; omega⟩, ⟨by repeat (first | (with_reducible first | exact BK1.out | refine blk_drewN ?_ _ | refine blk_drew ?_) | refine blk_far ?_ (by show w.heap.size ≠ w.heap.size + 1; omega) _)⟩, ⟨by (with_reducible repeat (first | refine blk_drewN ?_ _ | refine blk_drew ?_)); refine blk_put (cs := #[.int .i64 (-1), .int .i64 (-1), .int .i64 (-1), .int .i64 0, .int .i64 0, .int .i64 0, .int .i64 0, .int .i64 0, .int .i64 0]) ?_ 3 (.int .i64 (-1)) rfl; (with_reducible repeat (first | refine blk_drewN ?_ _ | refine blk_drew ?_)); exact BK2.out⟩, ⟨by repeat (first | (with_reducible first | exact HB.out | apply below_alloc | apply pw_below_drewN | apply below_drew1) | refine below_set ?_ (Nat.le_succ _))⟩⟩
    · have hs2_4 : wr.cell? ⟨w.heap.size + 1, 4, none⟩ = some (.int .i64 0) := (blk_cell BK2.out 4).trans rfl
      have hf2_4 := blk_frozen BK2.out 4
      have hcg : wr.cell? ⟨g, 0, none⟩ = some (.int .i64 1) := pw_cell_below HB.out HC.out
      go_wp2_with (go_at_call 52; (with_reducible refine (clo_ne _ _ 1 g _ ?h1 (by decide)).mono ?_); (case h1 => first | exact hcg | (simp only [World.cell?_drewN]; exact hcg)); rintro e w2 ⟨rfl, ⟨nd, rfl⟩⟩)
      repeat (go_quiet (fail); try go_wp2)
      go_roundg (gk - 1)
      case measure => have := HA.out; omega
      case rel => exact ⟨5, rfl, ⟨by omega, by have := HA.out; omega⟩, ⟨by repeat (first | (with_reducible first | exact BK1.out | refine blk_drewN ?_ _ | refine blk_drew ?_) | refine blk_far ?_ (by show w.heap.size ≠ w.heap.size + 1; omega) _)⟩, ⟨by (with_reducible repeat (first | refine blk_drewN ?_ _ | refine blk_drew ?_)); refine blk_put (cs := #[.int .i64 (-1), .int .i64 (-1), .int .i64 (-1), .int .i64 (-1), .int .i64 0, .int .i64 0, .int .i64 0, .int .i64 0, .int .i64 0]) ?_ 4 (.int .i64 (-1)) rfl; (with_reducible repeat (first | refine blk_drewN ?_ _ | refine blk_drew ?_)); exact BK2.out⟩, ⟨by repeat (first | (with_reducible first | exact HB.out | apply below_alloc | apply pw_below_drewN | apply below_drew1) | refine below_set ?_ (Nat.le_succ _))⟩⟩
    · have hs2_5 : wr.cell? ⟨w.heap.size + 1, 5, none⟩ = some (.int .i64 0) := (blk_cell BK2.out 5).trans rfl
      have hf2_5 := blk_frozen BK2.out 5
      have hcg : wr.cell? ⟨g, 0, none⟩ = some (.int .i64 1) := pw_cell_below HB.out HC.out
      go_wp2_with (go_at_call 52; (with_reducible refine (clo_ne _ _ 1 g _ ?h1 (by decide)).mono ?_); (case h1 => first | exact hcg | (simp only [World.cell?_drewN]; exact hcg)); rintro e w2 ⟨rfl, ⟨nd, rfl⟩⟩)
      repeat (go_quiet (fail); try go_wp2)
      go_roundg (gk - 1)
      case measure => have := HA.out; omega
      case rel => exact ⟨6, rfl, ⟨by omega, by have := HA.out; omega⟩, ⟨by repeat (first | (with_reducible first | exact BK1.out | refine blk_drewN ?_ _ | refine blk_drew ?_) | refine blk_far ?_ (by show w.heap.size ≠ w.heap.size + 1; omega) _)⟩, ⟨by (with_reducible repeat (first | refine blk_drewN ?_ _ | refine blk_drew ?_)); refine blk_put (cs := #[.int .i64 (-1), .int .i64 (-1), .int .i64 (-1), .int .i64 (-1), .int .i64 (-1), .int .i64 0, .int .i64 0, .int .i64 0, .int .i64 0]) ?_ 5 (.int .i64 (-1)) rfl; (with_reducible repeat (first | refine blk_drewN ?_ _ | refine blk_drew ?_)); exact BK2.out⟩, ⟨by repeat (first | (with_reducible first | exact HB.out | apply below_alloc | apply pw_below_drewN | apply below_drew1) | refine below_set ?_ (Nat.le_succ _))⟩⟩
    · have hs2_6 : wr.cell? ⟨w.heap.size + 1, 6, none⟩ = some (.int .i64 0) := (blk_cell BK2.out 6).trans rfl
      have hf2_6 := blk_frozen BK2.out 6
      have hcg : wr.cell? ⟨g, 0, none⟩ = some (.int .i64 1) := pw_cell_below HB.out HC.out
      go_wp2_with (go_at_call 52; (with_reducible refine (clo_eq _ _ 1 g _ ?h1 (by decide)).mono ?_); (case h1 => first | exact hcg | (simp only [World.cell?_drewN]; exact hcg)); rintro e w2 ⟨rfl, ⟨nd, rfl⟩⟩)
      repeat (go_quiet (fail); try go_wp2)
      go_roundg (gk - 1)
      case measure => have := HA.out; omega
      case rel => exact ⟨7, rfl, ⟨by omega, by have := HA.out; omega⟩, ⟨by repeat (first | (with_reducible first | exact BK1.out | refine blk_drewN ?_ _ | refine blk_drew ?_) | refine blk_far ?_ (by show w.heap.size ≠ w.heap.size + 1; omega) _)⟩, ⟨by (with_reducible repeat (first | refine blk_drewN ?_ _ | refine blk_drew ?_)); refine blk_put (cs := #[.int .i64 (-1), .int .i64 (-1), .int .i64 (-1), .int .i64 (-1), .int .i64 (-1), .int .i64 (-1), .int .i64 0, .int .i64 0, .int .i64 0]) ?_ 6 (.int .i64 1) rfl; (with_reducible repeat (first | refine blk_drewN ?_ _ | refine blk_drew ?_)); exact BK2.out⟩, ⟨by repeat (first | (with_reducible first | exact HB.out | apply below_alloc | apply pw_below_drewN | apply below_drew1) | refine below_set ?_ (Nat.le_succ _))⟩⟩
    · have hs2_7 : wr.cell? ⟨w.heap.size + 1, 7, none⟩ = some (.int .i64 0) := (blk_cell BK2.out 7).trans rfl
      have hf2_7 := blk_frozen BK2.out 7
      have hcg : wr.cell? ⟨g, 0, none⟩ = some (.int .i64 1) := pw_cell_below HB.out HC.out
      go_wp2_with (go_at_call 52; (with_reducible refine (clo_eq _ _ 1 g _ ?h1 (by decide)).mono ?_); (case h1 => first | exact hcg | (simp only [World.cell?_drewN]; exact hcg)); rintro e w2 ⟨rfl, ⟨nd, rfl⟩⟩)
      repeat (go_quiet (fail); try go_wp2)
      go_roundg (gk - 1)
      case measure => have := HA.out; omega
      case rel => exact ⟨8, rfl, ⟨by omega, by have := HA.out; omega⟩, ⟨by repeat (first | (with_reducible first | exact BK1.out | refine blk_drewN ?_ _ | refine blk_drew ?_) | refine blk_far ?_ (by show w.heap.size ≠ w.heap.size + 1; omega) _)⟩, ⟨by (with_reducible repeat (first | refine blk_drewN ?_ _ | refine blk_drew ?_)); refine blk_put (cs := #[.int .i64 (-1), .int .i64 (-1), .int .i64 (-1), .int .i64 (-1), .int .i64 (-1), .int .i64 (-1), .int .i64 1, .int .i64 0, .int .i64 0]) ?_ 7 (.int .i64 1) rfl; (with_reducible repeat (first | refine blk_drewN ?_ _ | refine blk_drew ?_)); exact BK2.out⟩, ⟨by repeat (first | (with_reducible first | exact HB.out | apply below_alloc | apply pw_below_drewN | apply below_drew1) | refine below_set ?_ (Nat.le_succ _))⟩⟩
    · have hs2_8 : wr.cell? ⟨w.heap.size + 1, 8, none⟩ = some (.int .i64 0) := (blk_cell BK2.out 8).trans rfl
      have hf2_8 := blk_frozen BK2.out 8
      have hcg : wr.cell? ⟨g, 0, none⟩ = some (.int .i64 1) := pw_cell_below HB.out HC.out
      go_wp2_with (go_at_call 52; (with_reducible refine (clo_eq _ _ 1 g _ ?h1 (by decide)).mono ?_); (case h1 => first | exact hcg | (simp only [World.cell?_drewN]; exact hcg)); rintro e w2 ⟨rfl, ⟨nd, rfl⟩⟩)
      repeat (go_quiet (fail); try go_wp2)
      go_roundg (gk - 1)
      case measure => have := HA.out; omega
      case rel => exact ⟨9, rfl, ⟨by omega, by have := HA.out; omega⟩, ⟨by repeat (first | (with_reducible first | exact BK1.out | refine blk_drewN ?_ _ | refine blk_drew ?_) | refine blk_far ?_ (by show w.heap.size ≠ w.heap.size + 1; omega) _)⟩, ⟨by (with_reducible repeat (first | refine blk_drewN ?_ _ | refine blk_drew ?_)); refine blk_put (cs := #[.int .i64 (-1), .int .i64 (-1), .int .i64 (-1), .int .i64 (-1), .int .i64 (-1), .int .i64 (-1), .int .i64 1, .int .i64 1, .int .i64 0]) ?_ 8 (.int .i64 1) rfl; (with_reducible repeat (first | refine blk_drewN ?_ _ | refine blk_drew ?_)); exact BK2.out⟩, ⟨by repeat (first | (with_reducible first | exact HB.out | apply below_alloc | apply pw_below_drewN | apply below_drew1) | refine below_set ?_ (Nat.le_succ _))⟩⟩

end Go.Proofs.Ytaopbkbjfmfcdaa.P
