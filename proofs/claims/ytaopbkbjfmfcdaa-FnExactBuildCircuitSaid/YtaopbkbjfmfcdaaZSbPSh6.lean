/- What functions of the program come to, each with the proof that it does, laid by a program of this session out of the translation; no condition is set on any claim. -/
import Derived.Deep.RegionLaw
import Derived.Test.YtaopbkbjfmfcdaaZSbPSh0
import Derived.Test.YtaopbkbjfmfcdaaZSbPSh3
namespace Go.Proofs.Ytaopbkbjfmfcdaa.P
open Go.RowKit Go.Proofs.YtaopbkbjfmfcdaaW.PrintWords Go.Proofs.YtaopbkbjfmfcdaaW.PrintLast Go.Proofs.YtaopbkbjfmfcdaaW.PrintMore
attribute [local go_sem] max2_int min2_int max_two min_two max_three min_three max_four min_four   -- for this text's walks alone
set_option linter.unusedVariables false
set_option linter.unusedSimpArgs false

/-! ### laws_toTable: function 47 -/
def laws_toTable.f (a0_0 a0_1 a0_2 a0_3 a0_4 a0_5 a0_6 a0_7 a0_8 : Int) : Option (Int × Int × Int × Int × Int × Int × Int × Int × Int) := some (a0_0, a0_1, a0_2, a0_3, a0_4, a0_5, a0_6, a0_7, a0_8)
def toTable_at (a0_0 a0_1 a0_2 a0_3 a0_4 a0_5 a0_6 a0_7 a0_8 : Int) : Nat → Array Value
  | 0 => #[.int .i64 0, .int .i64 0, .int .i64 0, .int .i64 0, .int .i64 0, .int .i64 0, .int .i64 0, .int .i64 0, .int .i64 0]
  | 1 => #[.int .i64 a0_0, .int .i64 0, .int .i64 0, .int .i64 0, .int .i64 0, .int .i64 0, .int .i64 0, .int .i64 0, .int .i64 0]
  | 2 => #[.int .i64 a0_0, .int .i64 a0_1, .int .i64 0, .int .i64 0, .int .i64 0, .int .i64 0, .int .i64 0, .int .i64 0, .int .i64 0]
  | 3 => #[.int .i64 a0_0, .int .i64 a0_1, .int .i64 a0_2, .int .i64 0, .int .i64 0, .int .i64 0, .int .i64 0, .int .i64 0, .int .i64 0]
  | 4 => #[.int .i64 a0_0, .int .i64 a0_1, .int .i64 a0_2, .int .i64 a0_3, .int .i64 0, .int .i64 0, .int .i64 0, .int .i64 0, .int .i64 0]
  | 5 => #[.int .i64 a0_0, .int .i64 a0_1, .int .i64 a0_2, .int .i64 a0_3, .int .i64 a0_4, .int .i64 0, .int .i64 0, .int .i64 0, .int .i64 0]
  | 6 => #[.int .i64 a0_0, .int .i64 a0_1, .int .i64 a0_2, .int .i64 a0_3, .int .i64 a0_4, .int .i64 a0_5, .int .i64 0, .int .i64 0, .int .i64 0]
  | 7 => #[.int .i64 a0_0, .int .i64 a0_1, .int .i64 a0_2, .int .i64 a0_3, .int .i64 a0_4, .int .i64 a0_5, .int .i64 a0_6, .int .i64 0, .int .i64 0]
  | 8 => #[.int .i64 a0_0, .int .i64 a0_1, .int .i64 a0_2, .int .i64 a0_3, .int .i64 a0_4, .int .i64 a0_5, .int .i64 a0_6, .int .i64 a0_7, .int .i64 0]
  | 9 => #[.int .i64 a0_0, .int .i64 a0_1, .int .i64 a0_2, .int .i64 a0_3, .int .i64 a0_4, .int .i64 a0_5, .int .i64 a0_6, .int .i64 a0_7, .int .i64 a0_8]
  | _ => #[]
set_option maxHeartbeats 8000000 in
set_option maxRecDepth 100000 in
theorem laws_toTable.calls (a0_0 a0_1 a0_2 a0_3 a0_4 a0_5 a0_6 a0_7 a0_8 : Int) (r1 r2 r3 r4 r5 r6 r7 r8 r9 : Int) (w : World) (h : laws_toTable.f a0_0 a0_1 a0_2 a0_3 a0_4 a0_5 a0_6 a0_7 a0_8 = some (r1, r2, r3, r4, r5, r6, r7, r8, r9)) :
    Calls Try.prog 47 #[.agg #[.int .i64 a0_0, .int .i64 a0_1, .int .i64 a0_2, .int .i64 a0_3, .int .i64 a0_4, .int .i64 a0_5, .int .i64 a0_6, .int .i64 a0_7, .int .i64 a0_8]] w fun e w' => e = .returned (.agg #[.int .i64 r1, .int .i64 r2, .int .i64 r3, .int .i64 r4, .int .i64 r5, .int .i64 r6, .int .i64 r7, .int .i64 r8, .int .i64 r9]) ∧ Below w.heap.size w w' := by
  have h2 := Option.some.inj h
  simp only [Prod.mk.injEq] at h2
  obtain ⟨rfl, rfl, rfl, rfl, rfl, rfl, rfl, rfl, rfl⟩ := h2
  clear h
  have HB := Aside0.mk (Below.refl w.heap.size w)
  go_enter Try.func47, Try.ntmps47
  go_wp2
  go_loopg [4] 10 (fun kq v4 w' => ∃ i : Nat, v4 = .int .i64 (i : Int) ∧ Aside0 (True ∧ i ≤ 9 ∧ kq = 10 - i) ∧ Aside0 (w'.heap[w.heap.size]? = some (.cells #[.int .i64 a0_0, .int .i64 a0_1, .int .i64 a0_2, .int .i64 a0_3, .int .i64 a0_4, .int .i64 a0_5, .int .i64 a0_6, .int .i64 a0_7, .int .i64 a0_8] 22 (0, 0))) ∧ Aside0 (w'.heap[w.heap.size + 1]? = some (.cells #[.int .i64 0, .int .i64 0, .int .i64 0, .int .i64 0, .int .i64 0, .int .i64 0, .int .i64 0, .int .i64 0, .int .i64 0] 23 (0, 0))) ∧ Aside0 (w'.heap[w.heap.size + 2]? = some (.cells (toTable_at a0_0 a0_1 a0_2 a0_3 a0_4 a0_5 a0_6 a0_7 a0_8 i) 23 (0, 0))) ∧ Aside0 (w.heap.size + 3 ≤ w'.heap.size) ∧ Aside0 (Below w.heap.size w w'))
  case atStart => exact ⟨0, rfl, ⟨trivial, by omega, rfl⟩, ⟨blk_alloc (blk_alloc (blk_new _ _) _) _⟩, ⟨by refine blk_alloc ?_ _; have h := blk_new (w.alloc (.cells #[.int .i64 a0_0, .int .i64 a0_1, .int .i64 a0_2, .int .i64 a0_3, .int .i64 a0_4, .int .i64 a0_5, .int .i64 a0_6, .int .i64 a0_7, .int .i64 a0_8] 22)) (.cells #[.int .i64 0, .int .i64 0, .int .i64 0, .int .i64 0, .int .i64 0, .int .i64 0, .int .i64 0, .int .i64 0, .int .i64 0] 23); have e : (w.alloc (.cells #[.int .i64 a0_0, .int .i64 a0_1, .int .i64 a0_2, .int .i64 a0_3, .int .i64 a0_4, .int .i64 a0_5, .int .i64 a0_6, .int .i64 a0_7, .int .i64 a0_8] 22)).heap.size = w.heap.size + 1 := Array.size_push _; rw [e] at h; exact h⟩, ⟨by have h := blk_new ((w.alloc (.cells #[.int .i64 a0_0, .int .i64 a0_1, .int .i64 a0_2, .int .i64 a0_3, .int .i64 a0_4, .int .i64 a0_5, .int .i64 a0_6, .int .i64 a0_7, .int .i64 a0_8] 22)).alloc (.cells #[.int .i64 0, .int .i64 0, .int .i64 0, .int .i64 0, .int .i64 0, .int .i64 0, .int .i64 0, .int .i64 0, .int .i64 0] 23)) (.cells #[.int .i64 0, .int .i64 0, .int .i64 0, .int .i64 0, .int .i64 0, .int .i64 0, .int .i64 0, .int .i64 0, .int .i64 0] 23); have e : ((w.alloc (.cells #[.int .i64 a0_0, .int .i64 a0_1, .int .i64 a0_2, .int .i64 a0_3, .int .i64 a0_4, .int .i64 a0_5, .int .i64 a0_6, .int .i64 a0_7, .int .i64 a0_8] 22)).alloc (.cells #[.int .i64 0, .int .i64 0, .int .i64 0, .int .i64 0, .int .i64 0, .int .i64 0, .int .i64 0, .int .i64 0, .int .i64 0] 23)).heap.size = w.heap.size + 2 := (Array.size_push _).trans (congrArg (· + 1) (Array.size_push _)); rw [e] at h; exact h⟩, ⟨Nat.le_of_eq (((Array.size_push _).trans (congrArg (· + 1) ((Array.size_push _).trans (congrArg (· + 1) (Array.size_push _))))).symm)⟩, ⟨by repeat (first | (with_reducible first | exact HB.out | apply below_alloc | apply pw_below_drewN | apply below_drew1 | refine below_set ?_ (by omega)) | exact HB.out)⟩⟩
  case round =>
    obtain ⟨i, rfl, HA, BK0, BK1, BK2, HS, HB⟩ := hrel
    have hi : i = 9 ∨ i = 0 ∨ i = 1 ∨ i = 2 ∨ i = 3 ∨ i = 4 ∨ i = 5 ∨ i = 6 ∨ i = 7 ∨ i = 8 := by have := HA.out.2; omega
    rcases hi with rfl | rfl | rfl | rfl | rfl | rfl | rfl | rfl | rfl | rfl
    · have hs2_0 : wr.cell? ⟨w.heap.size + 2, 0, none⟩ = some (.int .i64 a0_0) := (blk_cell BK2.out 0).trans rfl
      have hs2_1 : wr.cell? ⟨w.heap.size + 2, 1, none⟩ = some (.int .i64 a0_1) := (blk_cell BK2.out 1).trans rfl
      have hs2_2 : wr.cell? ⟨w.heap.size + 2, 2, none⟩ = some (.int .i64 a0_2) := (blk_cell BK2.out 2).trans rfl
      have hs2_3 : wr.cell? ⟨w.heap.size + 2, 3, none⟩ = some (.int .i64 a0_3) := (blk_cell BK2.out 3).trans rfl
      have hs2_4 : wr.cell? ⟨w.heap.size + 2, 4, none⟩ = some (.int .i64 a0_4) := (blk_cell BK2.out 4).trans rfl
      have hs2_5 : wr.cell? ⟨w.heap.size + 2, 5, none⟩ = some (.int .i64 a0_5) := (blk_cell BK2.out 5).trans rfl
      have hs2_6 : wr.cell? ⟨w.heap.size + 2, 6, none⟩ = some (.int .i64 a0_6) := (blk_cell BK2.out 6).trans rfl
      have hs2_7 : wr.cell? ⟨w.heap.size + 2, 7, none⟩ = some (.int .i64 a0_7) := (blk_cell BK2.out 7).trans rfl
      have hs2_8 : wr.cell? ⟨w.heap.size + 2, 8, none⟩ = some (.int .i64 a0_8) := (blk_cell BK2.out 8).trans rfl
      have hs1_0 : wr.cell? ⟨w.heap.size + 1, 0, none⟩ = some (.int .i64 0) := (blk_cell BK1.out 0).trans rfl
      have hs1_1 : wr.cell? ⟨w.heap.size + 1, 1, none⟩ = some (.int .i64 0) := (blk_cell BK1.out 1).trans rfl
      have hs1_2 : wr.cell? ⟨w.heap.size + 1, 2, none⟩ = some (.int .i64 0) := (blk_cell BK1.out 2).trans rfl
      have hs1_3 : wr.cell? ⟨w.heap.size + 1, 3, none⟩ = some (.int .i64 0) := (blk_cell BK1.out 3).trans rfl
      have hs1_4 : wr.cell? ⟨w.heap.size + 1, 4, none⟩ = some (.int .i64 0) := (blk_cell BK1.out 4).trans rfl
      have hs1_5 : wr.cell? ⟨w.heap.size + 1, 5, none⟩ = some (.int .i64 0) := (blk_cell BK1.out 5).trans rfl
      have hs1_6 : wr.cell? ⟨w.heap.size + 1, 6, none⟩ = some (.int .i64 0) := (blk_cell BK1.out 6).trans rfl
      have hs1_7 : wr.cell? ⟨w.heap.size + 1, 7, none⟩ = some (.int .i64 0) := (blk_cell BK1.out 7).trans rfl
      have hs1_8 : wr.cell? ⟨w.heap.size + 1, 8, none⟩ = some (.int .i64 0) := (blk_cell BK1.out 8).trans rfl
      have hf1_0 := blk_frozen BK1.out 0
      have hf1_1 := blk_frozen BK1.out 1
      have hf1_2 := blk_frozen BK1.out 2
      have hf1_3 := blk_frozen BK1.out 3
      have hf1_4 := blk_frozen BK1.out 4
      have hf1_5 := blk_frozen BK1.out 5
      have hf1_6 := blk_frozen BK1.out 6
      have hf1_7 := blk_frozen BK1.out 7
      have hf1_8 := blk_frozen BK1.out 8
      go_wp2
      refine bodyPost_ret (v := .agg #[.int .i64 a0_0, .int .i64 a0_1, .int .i64 a0_2, .int .i64 a0_3, .int .i64 a0_4, .int .i64 a0_5, .int .i64 a0_6, .int .i64 a0_7, .int .i64 a0_8]) ?hr rfl ?_; (case hr => refine results_cell_row rfl _ _ (w.heap.size + 1) 23 #[.int .i64 a0_0, .int .i64 a0_1, .int .i64 a0_2, .int .i64 a0_3, .int .i64 a0_4, .int .i64 a0_5, .int .i64 a0_6, .int .i64 a0_7, .int .i64 a0_8] (0, 0) _ rfl ?hg Try.underlying23 rfl (by kernel_rfl); (case hg => refine blk_put (cs := #[.int .i64 a0_0, .int .i64 a0_1, .int .i64 a0_2, .int .i64 a0_3, .int .i64 a0_4, .int .i64 a0_5, .int .i64 a0_6, .int .i64 a0_7, .int .i64 0]) ?_ 8 (.int .i64 a0_8) rfl; refine blk_put (cs := #[.int .i64 a0_0, .int .i64 a0_1, .int .i64 a0_2, .int .i64 a0_3, .int .i64 a0_4, .int .i64 a0_5, .int .i64 a0_6, .int .i64 0, .int .i64 0]) ?_ 7 (.int .i64 a0_7) rfl; refine blk_put (cs := #[.int .i64 a0_0, .int .i64 a0_1, .int .i64 a0_2, .int .i64 a0_3, .int .i64 a0_4, .int .i64 a0_5, .int .i64 0, .int .i64 0, .int .i64 0]) ?_ 6 (.int .i64 a0_6) rfl; refine blk_put (cs := #[.int .i64 a0_0, .int .i64 a0_1, .int .i64 a0_2, .int .i64 a0_3, .int .i64 a0_4, .int .i64 0, .int .i64 0, .int .i64 0, .int .i64 0]) ?_ 5 (.int .i64 a0_5) rfl; refine blk_put (cs := #[.int .i64 a0_0, .int .i64 a0_1, .int .i64 a0_2, .int .i64 a0_3, .int .i64 0, .int .i64 0, .int .i64 0, .int .i64 0, .int .i64 0]) ?_ 4 (.int .i64 a0_4) rfl; refine blk_put (cs := #[.int .i64 a0_0, .int .i64 a0_1, .int .i64 a0_2, .int .i64 0, .int .i64 0, .int .i64 0, .int .i64 0, .int .i64 0, .int .i64 0]) ?_ 3 (.int .i64 a0_3) rfl; refine blk_put (cs := #[.int .i64 a0_0, .int .i64 a0_1, .int .i64 0, .int .i64 0, .int .i64 0, .int .i64 0, .int .i64 0, .int .i64 0, .int .i64 0]) ?_ 2 (.int .i64 a0_2) rfl; refine blk_put (cs := #[.int .i64 a0_0, .int .i64 0, .int .i64 0, .int .i64 0, .int .i64 0, .int .i64 0, .int .i64 0, .int .i64 0, .int .i64 0]) ?_ 1 (.int .i64 a0_1) rfl; refine blk_put (cs := #[.int .i64 0, .int .i64 0, .int .i64 0, .int .i64 0, .int .i64 0, .int .i64 0, .int .i64 0, .int .i64 0, .int .i64 0]) ?_ 0 (.int .i64 a0_0) rfl; exact BK1.out))
      exact ⟨rfl, below_set (below_set (below_set (below_set (below_set (below_set (below_set (below_set (below_set (HB.out) (Nat.le_succ _)) (Nat.le_succ _)) (Nat.le_succ _)) (Nat.le_succ _)) (Nat.le_succ _)) (Nat.le_succ _)) (Nat.le_succ _)) (Nat.le_succ _)) (Nat.le_succ _)⟩
    · have hs0_0 : wr.cell? ⟨w.heap.size, 0, none⟩ = some (.int .i64 a0_0) := (blk_cell BK0.out 0).trans rfl
      have hs2_0 : wr.cell? ⟨w.heap.size + 2, 0, none⟩ = some (.int .i64 0) := (blk_cell BK2.out 0).trans rfl
      have hf2_0 := blk_frozen BK2.out 0
      go_wp2
      go_roundg (gk - 1)
      case measure => have := HA.out.2; omega
      case rel => exact ⟨1, rfl, ⟨trivial, by omega, by have := HA.out.2; omega⟩, ⟨blk_far BK0.out (by show w.heap.size ≠ w.heap.size + 2; omega) _⟩, ⟨blk_far BK1.out (by show w.heap.size + 1 ≠ w.heap.size + 2; omega) _⟩, ⟨blk_put BK2.out 0 (.int .i64 a0_0) rfl⟩, ⟨by have := HS.out; simpa using this⟩, ⟨below_set HB.out (by omega)⟩⟩
    · have hs0_1 : wr.cell? ⟨w.heap.size, 1, none⟩ = some (.int .i64 a0_1) := (blk_cell BK0.out 1).trans rfl
      have hs2_1 : wr.cell? ⟨w.heap.size + 2, 1, none⟩ = some (.int .i64 0) := (blk_cell BK2.out 1).trans rfl
      have hf2_1 := blk_frozen BK2.out 1
      go_wp2
      go_roundg (gk - 1)
      case measure => have := HA.out.2; omega
      case rel => exact ⟨2, rfl, ⟨trivial, by omega, by have := HA.out.2; omega⟩, ⟨blk_far BK0.out (by show w.heap.size ≠ w.heap.size + 2; omega) _⟩, ⟨blk_far BK1.out (by show w.heap.size + 1 ≠ w.heap.size + 2; omega) _⟩, ⟨blk_put BK2.out 1 (.int .i64 a0_1) rfl⟩, ⟨by have := HS.out; simpa using this⟩, ⟨below_set HB.out (by omega)⟩⟩
    · have hs0_2 : wr.cell? ⟨w.heap.size, 2, none⟩ = some (.int .i64 a0_2) := (blk_cell BK0.out 2).trans rfl
      have hs2_2 : wr.cell? ⟨w.heap.size + 2, 2, none⟩ = some (.int .i64 0) := (blk_cell BK2.out 2).trans rfl
      have hf2_2 := blk_frozen BK2.out 2
      go_wp2
      go_roundg (gk - 1)
      case measure => have := HA.out.2; omega
      case rel => exact ⟨3, rfl, ⟨trivial, by omega, by have := HA.out.2; omega⟩, ⟨blk_far BK0.out (by show w.heap.size ≠ w.heap.size + 2; omega) _⟩, ⟨blk_far BK1.out (by show w.heap.size + 1 ≠ w.heap.size + 2; omega) _⟩, ⟨blk_put BK2.out 2 (.int .i64 a0_2) rfl⟩, ⟨by have := HS.out; simpa using this⟩, ⟨below_set HB.out (by omega)⟩⟩
    · have hs0_3 : wr.cell? ⟨w.heap.size, 3, none⟩ = some (.int .i64 a0_3) := (blk_cell BK0.out 3).trans rfl
      have hs2_3 : wr.cell? ⟨w.heap.size + 2, 3, none⟩ = some (.int .i64 0) := (blk_cell BK2.out 3).trans rfl
      have hf2_3 := blk_frozen BK2.out 3
      go_wp2
      go_roundg (gk - 1)
      case measure => have := HA.out.2; omega
      case rel => exact ⟨4, rfl, ⟨trivial, by omega, by have := HA.out.2; omega⟩, ⟨blk_far BK0.out (by show w.heap.size ≠ w.heap.size + 2; omega) _⟩, ⟨blk_far BK1.out (by show w.heap.size + 1 ≠ w.heap.size + 2; omega) _⟩, ⟨blk_put BK2.out 3 (.int .i64 a0_3) rfl⟩, ⟨by have := HS.out; simpa using this⟩, ⟨below_set HB.out (by omega)⟩⟩
    · have hs0_4 : wr.cell? ⟨w.heap.size, 4, none⟩ = some (.int .i64 a0_4) := (blk_cell BK0.out 4).trans rfl
      have hs2_4 : wr.cell? ⟨w.heap.size + 2, 4, none⟩ = some (.int .i64 0) := (blk_cell BK2.out 4).trans rfl
      have hf2_4 := blk_frozen BK2.out 4
      go_wp2
      go_roundg (gk - 1)
      case measure => have := HA.out.2; omega
      case rel => exact ⟨5, rfl, ⟨trivial, by omega, by have := HA.out.2; omega⟩, ⟨blk_far BK0.out (by show w.heap.size ≠ w.heap.size + 2; omega) _⟩, ⟨blk_far BK1.out (by show w.heap.size + 1 ≠ w.heap.size + 2; omega) _⟩, ⟨blk_put BK2.out 4 (.int .i64 a0_4) rfl⟩, ⟨by have := HS.out; simpa using this⟩, ⟨below_set HB.out (by omega)⟩⟩
    · have hs0_5 : wr.cell? ⟨w.heap.size, 5, none⟩ = some (.int .i64 a0_5) := (blk_cell BK0.out 5).trans rfl
      have hs2_5 : wr.cell? ⟨w.heap.size + 2, 5, none⟩ = some (.int .i64 0) := (blk_cell BK2.out 5).trans rfl
      have hf2_5 := blk_frozen BK2.out 5
      go_wp2
      go_roundg (gk - 1)
      case measure => have := HA.out.2; omega
      case rel => exact ⟨6, rfl, ⟨trivial, by omega, by have := HA.out.2; omega⟩, ⟨blk_far BK0.out (by show w.heap.size ≠ w.heap.size + 2; omega) _⟩, ⟨blk_far BK1.out (by show w.heap.size + 1 ≠ w.heap.size + 2; omega) _⟩, ⟨blk_put BK2.out 5 (.int .i64 a0_5) rfl⟩, ⟨by have := HS.out; simpa using this⟩, ⟨below_set HB.out (by omega)⟩⟩
    · have hs0_6 : wr.cell? ⟨w.heap.size, 6, none⟩ = some (.int .i64 a0_6) := (blk_cell BK0.out 6).trans rfl
      have hs2_6 : wr.cell? ⟨w.heap.size + 2, 6, none⟩ = some (.int .i64 0) := (blk_cell BK2.out 6).trans rfl
      have hf2_6 := blk_frozen BK2.out 6
      go_wp2
      go_roundg (gk - 1)
      case measure => have := HA.out.2; omega
      case rel => exact ⟨7, rfl, ⟨trivial, by omega, by have := HA.out.2; omega⟩, ⟨blk_far BK0.out (by show w.heap.size ≠ w.heap.size + 2; omega) _⟩, ⟨blk_far BK1.out (by show w.heap.size + 1 ≠ w.heap.size + 2; omega) _⟩, ⟨blk_put BK2.out 6 (.int .i64 a0_6) rfl⟩, ⟨by have := HS.out; simpa using this⟩, ⟨below_set HB.out (by omega)⟩⟩
    · have hs0_7 : wr.cell? ⟨w.heap.size, 7, none⟩ = some (.int .i64 a0_7) := (blk_cell BK0.out 7).trans rfl
      have hs2_7 : wr.cell? ⟨w.heap.size + 2, 7, none⟩ = some (.int .i64 0) := (blk_cell BK2.out 7).trans rfl
      have hf2_7 := blk_frozen BK2.out 7
      go_wp2
      go_roundg (gk - 1)
      case measure => have := HA.out.2; omega
      case rel => exact ⟨8, rfl, ⟨trivial, by omega, by have := HA.out.2; omega⟩, ⟨blk_far BK0.out (by show w.heap.size ≠ w.heap.size + 2; omega) _⟩, ⟨blk_far BK1.out (by show w.heap.size + 1 ≠ w.heap.size + 2; omega) _⟩, ⟨blk_put BK2.out 7 (.int .i64 a0_7) rfl⟩, ⟨by have := HS.out; simpa using this⟩, ⟨below_set HB.out (by omega)⟩⟩
    · have hs0_8 : wr.cell? ⟨w.heap.size, 8, none⟩ = some (.int .i64 a0_8) := (blk_cell BK0.out 8).trans rfl
      have hs2_8 : wr.cell? ⟨w.heap.size + 2, 8, none⟩ = some (.int .i64 0) := (blk_cell BK2.out 8).trans rfl
      have hf2_8 := blk_frozen BK2.out 8
      go_wp2
      go_roundg (gk - 1)
      case measure => have := HA.out.2; omega
      case rel => exact ⟨9, rfl, ⟨trivial, by omega, by have := HA.out.2; omega⟩, ⟨blk_far BK0.out (by show w.heap.size ≠ w.heap.size + 2; omega) _⟩, ⟨blk_far BK1.out (by show w.heap.size + 1 ≠ w.heap.size + 2; omega) _⟩, ⟨blk_put BK2.out 8 (.int .i64 a0_8) rfl⟩, ⟨by have := HS.out; simpa using this⟩, ⟨below_set HB.out (by omega)⟩⟩

/-! ### impl_IsTrit: function 50 -/
def impl_IsTrit.f (a0 : Int) : Option (Bool) := if a0 ≥ (-1) then (some (decide (a0 ≤ 1))) else (some false)
set_option maxHeartbeats 8000000 in
set_option maxRecDepth 100000 in
theorem impl_IsTrit.calls (a0 : Int) (r : Bool) (w : World) (h : impl_IsTrit.f a0 = some r) :
    Calls Try.prog 50 #[.int .i64 a0] w fun e w' => e = .returned (.bool r) ∧ Drawn0 w w' := by
  have H : (if a0 ≥ (-1) then (some (decide (a0 ≤ 1))) else (some false)) = some r := h
  clear h
  by_cases c2 : a0 ≥ (-1)
  · rw [if_pos c2] at H
    have c2b0 : decide ((-1) ≤ a0) = true := decide_eq_true c2
    clear c2
    obtain rfl := Option.some.inj H
    go_enter Try.func50, Try.ntmps50
    go_wp2
    go_ret
    exact ⟨by first | rfl | (simp; done) | (simp [*]; done), by repeat (first | exact Drawn0.refl _ | apply Drawn0.step)⟩
  · rw [if_neg c2] at H
    have c2b0 : decide ((-1) ≤ a0) = false := decide_eq_false c2
    clear c2
    obtain rfl := Option.some.inj H
    go_enter Try.func50, Try.ntmps50
    go_wp2
    go_ret
    exact ⟨by first | rfl | (simp; done) | (simp [*]; done), by repeat (first | exact Drawn0.refl _ | apply Drawn0.step)⟩

/-! ### impl_trits: function 65 -/
def impl_trits.l0 : Nat → List Int → Int → Int → Option (Bool)
  | 0, _, _, _ => none
  | k + 1, x5, x6, x7 => if x7 < x6 then (if 0 ≤ x7 then (if x7 < (x5.length : Int) then ((impl_IsTrit.f (rd x5 x7)).bind fun t102 => (if t102 = true then (impl_trits.l0 k x5 x6 (wrap64 (x7 + 1))) else (some false))) else (none)) else (none)) else (some true)
def impl_trits.f (k : Nat) (l0 : List Int) : Option (Bool) := impl_trits.l0 k l0 (l0.length : Int) 0
set_option maxHeartbeats 8000000 in
set_option maxRecDepth 100000 in
theorem impl_trits.calls (k : Nat) (A0 : Option Addr) (c0 : Nat) (l0 : List Int) (r : Bool) (w : World) (hr0 : Kd.C (Kd.int .i64) w A0 l0.length l0) (hc0 : l0.length ≤ c0) (h : impl_trits.f k l0 = some r) :
    Calls Try.prog 65 #[.slice A0 l0.length c0] w fun e w' => e = .returned (.bool r) ∧ Drawn0 w w' := by
  have HR0 := Aside0.mk hr0
  have HC0 := Aside0.mk hc0
  clear hr0 hc0
  have H : (impl_trits.l0 k l0 (l0.length : Int) 0) = some r := h
  clear h
  have H' := Aside0.mk H
  clear H
  go_enter Try.func65, Try.ntmps65
  go_wp2
  go_loopg [7] k (fun kq v7 w' => ∃ (x7_1 : Int), v7 = .int .i64 x7_1 ∧ Aside0 (impl_trits.l0 kq l0 (l0.length : Int) x7_1 = some r) ∧ Aside0 (kq ≤ k) ∧ Drawn0 w w')
  case atStart => exact ⟨(0), (by first | rfl | (simp; done) | (simp [*]; done)), H', ⟨Nat.le_refl _⟩, by repeat (first | exact Drawn0.refl _ | apply Drawn0.step)⟩
  case round =>
    clear H'
    obtain ⟨x7_1, rfl, HA, HK1, ⟨m1, rfl⟩⟩ := hrel
    cases gk with
    | zero => exact absurd HA.out (by simp [impl_trits.l0])
    | succ k1 =>
      have H := HA.out
      clear HA
      simp only [impl_trits.l0] at H
      by_cases c2 : x7_1 < (l0.length : Int)
      · rw [if_pos c2] at H
        have c2b0 : decide (x7_1 < (l0.length : Int)) = true := decide_eq_true c2
        clear c2
        by_cases c3 : 0 ≤ x7_1
        · rw [if_pos c3] at H
          have c3b0 : decide (0 ≤ x7_1) = true := decide_eq_true c3
          clear c3
          by_cases c4 : x7_1 < (l0.length : Int)
          · rw [if_pos c4] at H
            have c4b0 : decide (x7_1 < (l0.length : Int)) = true := decide_eq_true c4
            clear c4
            replace H := Option.bind_eq_some_iff.mp H
            obtain ⟨t102, A50, H⟩ := H
            replace H : (if t102 = true then (impl_trits.l0 k1 l0 (l0.length : Int) (wrap64 (x7_1 + 1))) else (some false)) = some r := H
            have A5 := Aside0.mk A50
            clear A50
            by_cases c6 : t102 = true
            · subst c6
              have H1 : (impl_trits.l0 k1 l0 (l0.length : Int) (wrap64 (x7_1 + 1))) = some r := by rw [if_pos rfl] at H; exact H
              clear H
              have H := H1
              clear H1
              have H' := Aside0.mk H
              clear H
              have p101 : 0 ≤ (x7_1 : Int) := of_decide_eq_true (by first | (with_reducible assumption) | assumption)
              have q101 : x7_1 < (l0.length : Int) := of_decide_eq_true (by first | (with_reducible assumption) | assumption)
              obtain ⟨ad101, e101, hx101_0⟩ := Kd.at_int HR0.out x7_1 p101 q101
              cases e101
              replace p101 := eq_true p101
              replace q101 := eq_true q101
              go_wp2_with (first | ((with_reducible refine gate_callee (f := 50) rfl ?_); refine goesL_ (some 12) rfl rfl Try.func50 (by kernel_rfl) rfl #[.int .i64 (rd l0 x7_1)] rfl (by (try simp only [List.map_toArray, List.map_cons, List.map_nil]); first | done | rfl | (simp only [List.length_drop, List.length_take]; rfl)) ?_; (with_reducible refine (impl_IsTrit.calls (rd l0 x7_1) true _ A5.out).mono ?_); rintro e w' ⟨rfl, ⟨nd, rfl⟩⟩; refine ⟨_, rfl, ?_⟩))
              go_roundg k1
              case measure => have := HK1.out; omega
              case rel => exact ⟨(wrap64 (x7_1 + 1)), (by first | rfl | (simp; done) | (simp [*]; done)), H', ⟨by have := HK1.out; omega⟩, by repeat (first | exact Drawn0.refl _ | apply Drawn0.step)⟩
            · replace c6 := Bool.eq_false_iff.mpr c6
              subst c6
              have H1 : (some false) = some r := by rw [if_neg (show ¬ (false = true) by decide)] at H; exact H
              clear H
              have H := H1
              clear H1
              obtain rfl := Option.some.inj H
              have p101 : 0 ≤ (x7_1 : Int) := of_decide_eq_true (by first | (with_reducible assumption) | assumption)
              have q101 : x7_1 < (l0.length : Int) := of_decide_eq_true (by first | (with_reducible assumption) | assumption)
              obtain ⟨ad101, e101, hx101_0⟩ := Kd.at_int HR0.out x7_1 p101 q101
              cases e101
              replace p101 := eq_true p101
              replace q101 := eq_true q101
              go_wp2_with (first | ((with_reducible refine gate_callee (f := 50) rfl ?_); refine goesL_ (some 12) rfl rfl Try.func50 (by kernel_rfl) rfl #[.int .i64 (rd l0 x7_1)] rfl (by (try simp only [List.map_toArray, List.map_cons, List.map_nil]); first | done | rfl | (simp only [List.length_drop, List.length_take]; rfl)) ?_; (with_reducible refine (impl_IsTrit.calls (rd l0 x7_1) false _ A5.out).mono ?_); rintro e w' ⟨rfl, ⟨nd, rfl⟩⟩; refine ⟨_, rfl, ?_⟩))
              go_ret
              exact ⟨by first | rfl | (simp; done) | (simp [*]; done), by repeat (first | exact Drawn0.refl _ | apply Drawn0.step)⟩
          · rw [if_neg c4] at H
            exact absurd H (by simp)
        · rw [if_neg c3] at H
          exact absurd H (by simp)
      · rw [if_neg c2] at H
        have c2b0 : decide (x7_1 < (l0.length : Int)) = false := decide_eq_false c2
        clear c2
        obtain rfl := Option.some.inj H
        go_wp2
        go_ret
        exact ⟨by first | rfl | (simp; done) | (simp [*]; done), by repeat (first | exact Drawn0.refl _ | apply Drawn0.step)⟩

/-! ### impl_IsTable: function 58 -/
theorem impl_trB (x : Int) : impl_IsTrit.f x = some (trB x) := by
  unfold impl_IsTrit.f trB
  by_cases c : -1 ≤ x <;> simp [c]
theorem bindS {α β : Type} (x : α) (f : α → Option β) : (some x).bind f = f x := by
  cases h : f x with
  | none => simp [h]
  | some y => simp [h]
theorem impl_trits_go (l : List Int) (hl : l.length ≤ 2000000) : ∀ (d k i : Nat), i + d = l.length → d < k →
    impl_trits.l0 k l (l.length : Int) (i : Int) = some (isT9 (l.drop i)) := by
  intro d
  induction d with
  | zero =>
    intro k i h hk
    obtain ⟨k, rfl⟩ : ∃ m, k = m + 1 := ⟨k - 1, by omega⟩
    simp only [impl_trits.l0]
    rw [if_neg (by omega), List.drop_eq_nil_of_le (by omega)]
    rfl
  | succ d ih =>
    intro k i h hk
    obtain ⟨k, rfl⟩ : ∃ m, k = m + 1 := ⟨k - 1, by omega⟩
    simp only [impl_trits.l0]
    have hd : l.drop i = rd l (i : Int) :: l.drop (i + 1) := by
      rw [List.drop_eq_getElem_cons (by omega)]
      congr 1
      simp [rd, List.getElem?_eq_getElem (show i < l.length by omega)]
    rw [if_pos (by omega), if_pos (by omega), if_pos (by omega), impl_trB, bindS, hd]
    cases c : trB (rd l (i : Int)) with
    | true =>
      rw [if_pos rfl, show wrap64 ((i : Int) + 1) = ((i + 1 : Nat) : Int) by unfold wrap64; omega, ih k (i + 1) (by omega) (by omega)]
      simp [isT9, c]
    | false =>
      rw [if_neg (by decide)]
      simp [isT9, c]
theorem t9_cells (a0_0 a0_1 a0_2 a0_3 a0_4 a0_5 a0_6 a0_7 a0_8 : Int) : (#[.int .i64 a0_0, .int .i64 a0_1, .int .i64 a0_2, .int .i64 a0_3, .int .i64 a0_4, .int .i64 a0_5, .int .i64 a0_6, .int .i64 a0_7, .int .i64 a0_8] : Array Value) = (([a0_0, a0_1, a0_2, a0_3, a0_4, a0_5, a0_6, a0_7, a0_8] : List Int).map (Value.int .i64)).toArray := rfl
theorem t9_reads (a0_0 a0_1 a0_2 a0_3 a0_4 a0_5 a0_6 a0_7 a0_8 : Int) (w : World) : Kd.C (Kd.int .i64) (w.alloc (.cells #[.int .i64 a0_0, .int .i64 a0_1, .int .i64 a0_2, .int .i64 a0_3, .int .i64 a0_4, .int .i64 a0_5, .int .i64 a0_6, .int .i64 a0_7, .int .i64 a0_8] 23)) (some ⟨w.heap.size, 0, none⟩) ([a0_0, a0_1, a0_2, a0_3, a0_4, a0_5, a0_6, a0_7, a0_8] : List Int).length [a0_0, a0_1, a0_2, a0_3, a0_4, a0_5, a0_6, a0_7, a0_8] := by
  refine ⟨rfl, by show 9 ≤ _; decide, fun _ => ⟨_, rfl, fun j p hj => ⟨[.int .i64 p], rfl, rfl, fun i u hu => ?_⟩⟩⟩
  have hi : i = 0 := by
    have := (List.getElem?_eq_some_iff.1 hu).1
    simp at this
    exact this
  subst hi
  obtain rfl : Value.int .i64 p = u := by simpa using hu
  have hb := blk_new w (.cells #[.int .i64 a0_0, .int .i64 a0_1, .int .i64 a0_2, .int .i64 a0_3, .int .i64 a0_4, .int .i64 a0_5, .int .i64 a0_6, .int .i64 a0_7, .int .i64 a0_8] 23)
  have e : (Addr.add ⟨w.heap.size, 0, none⟩ (j * 1 + 0)) = ⟨w.heap.size, j, none⟩ := by unfold Addr.add; simp; exact fun h => h.symm
  show World.cell? _ (Addr.add ⟨w.heap.size, 0, none⟩ (j * 1 + 0)) = _
  rw [e]
  refine (blk_cell hb j).trans ?_
  rw [t9_cells]
  simp only [List.getElem?_toArray, List.getElem?_map]
  rw [hj]
  rfl
def impl_IsTable.f (a0_0 a0_1 a0_2 a0_3 a0_4 a0_5 a0_6 a0_7 a0_8 : Int) : Option Bool := some (isT9 [a0_0, a0_1, a0_2, a0_3, a0_4, a0_5, a0_6, a0_7, a0_8])
theorem impl_trits_nine (a0_0 a0_1 a0_2 a0_3 a0_4 a0_5 a0_6 a0_7 a0_8 : Int) : impl_trits.f 10 [a0_0, a0_1, a0_2, a0_3, a0_4, a0_5, a0_6, a0_7, a0_8] = some (isT9 [a0_0, a0_1, a0_2, a0_3, a0_4, a0_5, a0_6, a0_7, a0_8]) := impl_trits_go [a0_0, a0_1, a0_2, a0_3, a0_4, a0_5, a0_6, a0_7, a0_8] (by simp) 9 10 0 rfl (by omega)
set_option maxHeartbeats 8000000 in
set_option maxRecDepth 100000 in
theorem impl_IsTable.calls (a0_0 a0_1 a0_2 a0_3 a0_4 a0_5 a0_6 a0_7 a0_8 : Int) (r : Bool) (w : World) (h : impl_IsTable.f a0_0 a0_1 a0_2 a0_3 a0_4 a0_5 a0_6 a0_7 a0_8 = some r) :
    Calls Try.prog 58 #[.agg #[.int .i64 a0_0, .int .i64 a0_1, .int .i64 a0_2, .int .i64 a0_3, .int .i64 a0_4, .int .i64 a0_5, .int .i64 a0_6, .int .i64 a0_7, .int .i64 a0_8]] w fun e w' => e = .returned (.bool r) ∧ Below w.heap.size w w' := by
  have HR := Aside0.mk (Option.some.inj h)
  clear h
  have HB := Aside0.mk (Below.refl w.heap.size w)
  have HT := Aside0.mk (impl_trits_nine a0_0 a0_1 a0_2 a0_3 a0_4 a0_5 a0_6 a0_7 a0_8)
  have HC := Aside0.mk (t9_reads a0_0 a0_1 a0_2 a0_3 a0_4 a0_5 a0_6 a0_7 a0_8 w)
  go_enter Try.func58, Try.ntmps58
  go_wp2_with (go_at_call 65; (refine (impl_trits.calls 10 (some ⟨w.heap.size, 0, none⟩) 9 [a0_0, a0_1, a0_2, a0_3, a0_4, a0_5, a0_6, a0_7, a0_8] _ _ HC.out (Nat.le_refl 9) HT.out).mono ?_); rintro e w' ⟨rfl, ⟨nd, rfl⟩⟩)
  go_ret
  exact ⟨congrArg (fun b_ => Ending.returned (Value.bool b_)) HR.out, by repeat (first | (with_reducible first | exact HB.out | apply below_alloc | apply pw_below_drewN | apply below_drew1) | exact HB.out)⟩

/-! ### impl_tabled: function 51 -/
def tabF (F : Int → Int → Int) : Nat → Array Value
  | 0 => #[.int .i64 0, .int .i64 0, .int .i64 0, .int .i64 0, .int .i64 0, .int .i64 0, .int .i64 0, .int .i64 0, .int .i64 0]
  | 1 => #[.int .i64 (F (-1) (-1)), .int .i64 0, .int .i64 0, .int .i64 0, .int .i64 0, .int .i64 0, .int .i64 0, .int .i64 0, .int .i64 0]
  | 2 => #[.int .i64 (F (-1) (-1)), .int .i64 (F (-1) 0), .int .i64 0, .int .i64 0, .int .i64 0, .int .i64 0, .int .i64 0, .int .i64 0, .int .i64 0]
  | 3 => #[.int .i64 (F (-1) (-1)), .int .i64 (F (-1) 0), .int .i64 (F (-1) 1), .int .i64 0, .int .i64 0, .int .i64 0, .int .i64 0, .int .i64 0, .int .i64 0]
  | 4 => #[.int .i64 (F (-1) (-1)), .int .i64 (F (-1) 0), .int .i64 (F (-1) 1), .int .i64 (F 0 (-1)), .int .i64 0, .int .i64 0, .int .i64 0, .int .i64 0, .int .i64 0]
  | 5 => #[.int .i64 (F (-1) (-1)), .int .i64 (F (-1) 0), .int .i64 (F (-1) 1), .int .i64 (F 0 (-1)), .int .i64 (F 0 0), .int .i64 0, .int .i64 0, .int .i64 0, .int .i64 0]
  | 6 => #[.int .i64 (F (-1) (-1)), .int .i64 (F (-1) 0), .int .i64 (F (-1) 1), .int .i64 (F 0 (-1)), .int .i64 (F 0 0), .int .i64 (F 0 1), .int .i64 0, .int .i64 0, .int .i64 0]
  | 7 => #[.int .i64 (F (-1) (-1)), .int .i64 (F (-1) 0), .int .i64 (F (-1) 1), .int .i64 (F 0 (-1)), .int .i64 (F 0 0), .int .i64 (F 0 1), .int .i64 (F 1 (-1)), .int .i64 0, .int .i64 0]
  | 8 => #[.int .i64 (F (-1) (-1)), .int .i64 (F (-1) 0), .int .i64 (F (-1) 1), .int .i64 (F 0 (-1)), .int .i64 (F 0 0), .int .i64 (F 0 1), .int .i64 (F 1 (-1)), .int .i64 (F 1 0), .int .i64 0]
  | 9 => #[.int .i64 (F (-1) (-1)), .int .i64 (F (-1) 0), .int .i64 (F (-1) 1), .int .i64 (F 0 (-1)), .int .i64 (F 0 0), .int .i64 (F 0 1), .int .i64 (F 1 (-1)), .int .i64 (F 1 0), .int .i64 (F 1 1)]
  | _ => #[]
set_option maxHeartbeats 8000000 in
set_option maxRecDepth 100000 in
theorem tabled_any (fn : Nat) (fd : Func) (caps : Array Value) (F : Int → Int → Int) (w : World) (hfn : Try.prog.funcs[fn]? = some fd) (hname : (fd.name == "runtime.NumGoroutine") = false) (hbody : fd.body.isSome = true)
    (hf : ∀ (a b : Int) (W : World), Below w.heap.size w W → -1 ≤ a → a ≤ 1 → -1 ≤ b → b ≤ 1 → Calls Try.prog fn (#[.int .i64 a, .int .i64 b] ++ caps) W fun e W2 => e = .returned (.int .i64 (F a b)) ∧ Below W.heap.size W W2) :
    Calls Try.prog 51 #[.func (.func fn) #[] caps] w fun e w' => e = .returned (.agg #[.int .i64 (F (-1) (-1)), .int .i64 (F (-1) 0), .int .i64 (F (-1) 1), .int .i64 (F 0 (-1)), .int .i64 (F 0 0), .int .i64 (F 0 1), .int .i64 (F 1 (-1)), .int .i64 (F 1 0), .int .i64 (F 1 1)]) ∧ Below w.heap.size w w' := by
  have HB := Aside0.mk (Below.refl w.heap.size w)
  have HF := Aside0.mk hf
  have hent := fun (args : Array Value) (W : World) => enters_ (P := Try.prog) hfn hname hbody args W
  clear hf hfn hname hbody
  go_enter Try.func51, Try.ntmps51
  go_wp2
  go_loopg [5] 10 (fun kq v5 w' => ∃ i : Nat, v5 = .int .i64 (i : Int) ∧ Aside0 (True ∧ i ≤ 9 ∧ kq = 10 - i) ∧ Aside0 (w'.heap[w.heap.size]? = some (.cells #[.int .i64 0, .int .i64 0, .int .i64 0, .int .i64 0, .int .i64 0, .int .i64 0, .int .i64 0, .int .i64 0, .int .i64 0] 23 (0, 0))) ∧ Aside0 (w'.heap[w.heap.size + 1]? = some (.cells (tabF F i) 23 (0, 0))) ∧ Aside0 (Below w.heap.size w w'))
  case atStart => exact ⟨0, rfl, ⟨trivial, by omega, rfl⟩, ⟨blk_alloc (blk_new _ _) _⟩, ⟨by have h := blk_new (w.alloc (.cells #[.int .i64 0, .int .i64 0, .int .i64 0, .int .i64 0, .int .i64 0, .int .i64 0, .int .i64 0, .int .i64 0, .int .i64 0] 23)) (.cells #[.int .i64 0, .int .i64 0, .int .i64 0, .int .i64 0, .int .i64 0, .int .i64 0, .int .i64 0, .int .i64 0, .int .i64 0] 23); have e : (w.alloc (.cells #[.int .i64 0, .int .i64 0, .int .i64 0, .int .i64 0, .int .i64 0, .int .i64 0, .int .i64 0, .int .i64 0, .int .i64 0] 23)).heap.size = w.heap.size + 1 := Array.size_push _; rw [e] at h; exact h⟩, ⟨by repeat (first | (with_reducible first | exact HB.out | apply below_alloc | apply pw_below_drewN | apply below_drew1 | refine below_set ?_ (by omega)) | exact HB.out)⟩⟩
  case round =>
    obtain ⟨i, rfl, HA, BK1, BK2, HB⟩ := hrel
    have hi : i = 9 ∨ i = 0 ∨ i = 1 ∨ i = 2 ∨ i = 3 ∨ i = 4 ∨ i = 5 ∨ i = 6 ∨ i = 7 ∨ i = 8 := by have := HA.out.2; omega
    rcases hi with rfl | rfl | rfl | rfl | rfl | rfl | rfl | rfl | rfl | rfl
    · have hs2_0 : wr.cell? ⟨w.heap.size + 1, 0, none⟩ = some (.int .i64 (F (-1) (-1))) := (blk_cell BK2.out 0).trans rfl
      have hs2_1 : wr.cell? ⟨w.heap.size + 1, 1, none⟩ = some (.int .i64 (F (-1) 0)) := (blk_cell BK2.out 1).trans rfl
      have hs2_2 : wr.cell? ⟨w.heap.size + 1, 2, none⟩ = some (.int .i64 (F (-1) 1)) := (blk_cell BK2.out 2).trans rfl
      have hs2_3 : wr.cell? ⟨w.heap.size + 1, 3, none⟩ = some (.int .i64 (F 0 (-1))) := (blk_cell BK2.out 3).trans rfl
      have hs2_4 : wr.cell? ⟨w.heap.size + 1, 4, none⟩ = some (.int .i64 (F 0 0)) := (blk_cell BK2.out 4).trans rfl
      have hs2_5 : wr.cell? ⟨w.heap.size + 1, 5, none⟩ = some (.int .i64 (F 0 1)) := (blk_cell BK2.out 5).trans rfl
      have hs2_6 : wr.cell? ⟨w.heap.size + 1, 6, none⟩ = some (.int .i64 (F 1 (-1))) := (blk_cell BK2.out 6).trans rfl
      have hs2_7 : wr.cell? ⟨w.heap.size + 1, 7, none⟩ = some (.int .i64 (F 1 0)) := (blk_cell BK2.out 7).trans rfl
      have hs2_8 : wr.cell? ⟨w.heap.size + 1, 8, none⟩ = some (.int .i64 (F 1 1)) := (blk_cell BK2.out 8).trans rfl
      have hs1_0 : wr.cell? ⟨w.heap.size, 0, none⟩ = some (.int .i64 0) := (blk_cell BK1.out 0).trans rfl
      have hs1_1 : wr.cell? ⟨w.heap.size, 1, none⟩ = some (.int .i64 0) := (blk_cell BK1.out 1).trans rfl
      have hs1_2 : wr.cell? ⟨w.heap.size, 2, none⟩ = some (.int .i64 0) := (blk_cell BK1.out 2).trans rfl
      have hs1_3 : wr.cell? ⟨w.heap.size, 3, none⟩ = some (.int .i64 0) := (blk_cell BK1.out 3).trans rfl
      have hs1_4 : wr.cell? ⟨w.heap.size, 4, none⟩ = some (.int .i64 0) := (blk_cell BK1.out 4).trans rfl
      have hs1_5 : wr.cell? ⟨w.heap.size, 5, none⟩ = some (.int .i64 0) := (blk_cell BK1.out 5).trans rfl
      have hs1_6 : wr.cell? ⟨w.heap.size, 6, none⟩ = some (.int .i64 0) := (blk_cell BK1.out 6).trans rfl
      have hs1_7 : wr.cell? ⟨w.heap.size, 7, none⟩ = some (.int .i64 0) := (blk_cell BK1.out 7).trans rfl
      have hs1_8 : wr.cell? ⟨w.heap.size, 8, none⟩ = some (.int .i64 0) := (blk_cell BK1.out 8).trans rfl
      have hf1_0 := blk_frozen BK1.out 0
      have hf1_1 := blk_frozen BK1.out 1
      have hf1_2 := blk_frozen BK1.out 2
      have hf1_3 := blk_frozen BK1.out 3
      have hf1_4 := blk_frozen BK1.out 4
      have hf1_5 := blk_frozen BK1.out 5
      have hf1_6 := blk_frozen BK1.out 6
      have hf1_7 := blk_frozen BK1.out 7
      have hf1_8 := blk_frozen BK1.out 8
      go_wp2
      refine bodyPost_ret (v := .agg #[.int .i64 (F (-1) (-1)), .int .i64 (F (-1) 0), .int .i64 (F (-1) 1), .int .i64 (F 0 (-1)), .int .i64 (F 0 0), .int .i64 (F 0 1), .int .i64 (F 1 (-1)), .int .i64 (F 1 0), .int .i64 (F 1 1)]) ?hr rfl ?_; (case hr => refine results_cell_row rfl _ _ w.heap.size 23 #[.int .i64 (F (-1) (-1)), .int .i64 (F (-1) 0), .int .i64 (F (-1) 1), .int .i64 (F 0 (-1)), .int .i64 (F 0 0), .int .i64 (F 0 1), .int .i64 (F 1 (-1)), .int .i64 (F 1 0), .int .i64 (F 1 1)] (0, 0) _ rfl ?hg Try.underlying23 rfl (by kernel_rfl); (case hg => refine blk_put (cs := #[.int .i64 (F (-1) (-1)), .int .i64 (F (-1) 0), .int .i64 (F (-1) 1), .int .i64 (F 0 (-1)), .int .i64 (F 0 0), .int .i64 (F 0 1), .int .i64 (F 1 (-1)), .int .i64 (F 1 0), .int .i64 0]) ?_ 8 (.int .i64 (F 1 1)) rfl; refine blk_put (cs := #[.int .i64 (F (-1) (-1)), .int .i64 (F (-1) 0), .int .i64 (F (-1) 1), .int .i64 (F 0 (-1)), .int .i64 (F 0 0), .int .i64 (F 0 1), .int .i64 (F 1 (-1)), .int .i64 0, .int .i64 0]) ?_ 7 (.int .i64 (F 1 0)) rfl; refine blk_put (cs := #[.int .i64 (F (-1) (-1)), .int .i64 (F (-1) 0), .int .i64 (F (-1) 1), .int .i64 (F 0 (-1)), .int .i64 (F 0 0), .int .i64 (F 0 1), .int .i64 0, .int .i64 0, .int .i64 0]) ?_ 6 (.int .i64 (F 1 (-1))) rfl; refine blk_put (cs := #[.int .i64 (F (-1) (-1)), .int .i64 (F (-1) 0), .int .i64 (F (-1) 1), .int .i64 (F 0 (-1)), .int .i64 (F 0 0), .int .i64 0, .int .i64 0, .int .i64 0, .int .i64 0]) ?_ 5 (.int .i64 (F 0 1)) rfl; refine blk_put (cs := #[.int .i64 (F (-1) (-1)), .int .i64 (F (-1) 0), .int .i64 (F (-1) 1), .int .i64 (F 0 (-1)), .int .i64 0, .int .i64 0, .int .i64 0, .int .i64 0, .int .i64 0]) ?_ 4 (.int .i64 (F 0 0)) rfl; refine blk_put (cs := #[.int .i64 (F (-1) (-1)), .int .i64 (F (-1) 0), .int .i64 (F (-1) 1), .int .i64 0, .int .i64 0, .int .i64 0, .int .i64 0, .int .i64 0, .int .i64 0]) ?_ 3 (.int .i64 (F 0 (-1))) rfl; refine blk_put (cs := #[.int .i64 (F (-1) (-1)), .int .i64 (F (-1) 0), .int .i64 0, .int .i64 0, .int .i64 0, .int .i64 0, .int .i64 0, .int .i64 0, .int .i64 0]) ?_ 2 (.int .i64 (F (-1) 1)) rfl; refine blk_put (cs := #[.int .i64 (F (-1) (-1)), .int .i64 0, .int .i64 0, .int .i64 0, .int .i64 0, .int .i64 0, .int .i64 0, .int .i64 0, .int .i64 0]) ?_ 1 (.int .i64 (F (-1) 0)) rfl; refine blk_put (cs := #[.int .i64 0, .int .i64 0, .int .i64 0, .int .i64 0, .int .i64 0, .int .i64 0, .int .i64 0, .int .i64 0, .int .i64 0]) ?_ 0 (.int .i64 (F (-1) (-1))) rfl; exact BK1.out))
      exact ⟨rfl, below_set (below_set (below_set (below_set (below_set (below_set (below_set (below_set (below_set (HB.out) (Nat.le_refl _)) (Nat.le_refl _)) (Nat.le_refl _)) (Nat.le_refl _)) (Nat.le_refl _)) (Nat.le_refl _)) (Nat.le_refl _)) (Nat.le_refl _)) (Nat.le_refl _)⟩
    · go_wp2_with (refine (HF.out (-1) (-1) _ (by repeat (first | (with_reducible first | exact HB.out | apply below_alloc | apply pw_below_drewN | apply below_drew1) | exact HB.out)) (by omega) (by omega) (by omega) (by omega)).mono ?_; rintro e w3 ⟨rfl, hb⟩; have BK3 := Aside0.mk (show w3.heap[w.heap.size]? = some (.cells #[.int .i64 0, .int .i64 0, .int .i64 0, .int .i64 0, .int .i64 0, .int .i64 0, .int .i64 0, .int .i64 0, .int .i64 0] 23 (0, 0)) from blk_below (bA BK1.out) hb); have BK4 := Aside0.mk (show w3.heap[w.heap.size + 1]? = some (.cells (tabF F 0) 23 (0, 0)) from blk_below (bA BK2.out) hb); have HB3 := Aside0.mk (show Below w.heap.size w w3 from below_step (bB HB.out) hb); have hs4 : w3.cell? ⟨w.heap.size + 1, 0, none⟩ = some (.int .i64 0) := (blk_cell BK4.out 0).trans rfl; have hf4 := blk_frozen BK4.out 0; clear hb)
      go_roundg (gk - 1)
      case measure => have := HA.out.2; omega
      case rel => exact ⟨1, rfl, ⟨trivial, by omega, by have := HA.out.2; omega⟩, ⟨blk_far BK3.out (by show w.heap.size ≠ w.heap.size + 1; omega) _⟩, ⟨blk_put BK4.out 0 (.int .i64 (F (-1) (-1))) rfl⟩, ⟨below_set HB3.out (Nat.le_succ _)⟩⟩
    · go_wp2_with (refine (HF.out (-1) 0 _ (by repeat (first | (with_reducible first | exact HB.out | apply below_alloc | apply pw_below_drewN | apply below_drew1) | exact HB.out)) (by omega) (by omega) (by omega) (by omega)).mono ?_; rintro e w3 ⟨rfl, hb⟩; have BK3 := Aside0.mk (show w3.heap[w.heap.size]? = some (.cells #[.int .i64 0, .int .i64 0, .int .i64 0, .int .i64 0, .int .i64 0, .int .i64 0, .int .i64 0, .int .i64 0, .int .i64 0] 23 (0, 0)) from blk_below (bA BK1.out) hb); have BK4 := Aside0.mk (show w3.heap[w.heap.size + 1]? = some (.cells (tabF F 1) 23 (0, 0)) from blk_below (bA BK2.out) hb); have HB3 := Aside0.mk (show Below w.heap.size w w3 from below_step (bB HB.out) hb); have hs4 : w3.cell? ⟨w.heap.size + 1, 1, none⟩ = some (.int .i64 0) := (blk_cell BK4.out 1).trans rfl; have hf4 := blk_frozen BK4.out 1; clear hb)
      go_roundg (gk - 1)
      case measure => have := HA.out.2; omega
      case rel => exact ⟨2, rfl, ⟨trivial, by omega, by have := HA.out.2; omega⟩, ⟨blk_far BK3.out (by show w.heap.size ≠ w.heap.size + 1; omega) _⟩, ⟨blk_put BK4.out 1 (.int .i64 (F (-1) 0)) rfl⟩, ⟨below_set HB3.out (Nat.le_succ _)⟩⟩
    · go_wp2_with (refine (HF.out (-1) 1 _ (by repeat (first | (with_reducible first | exact HB.out | apply below_alloc | apply pw_below_drewN | apply below_drew1) | exact HB.out)) (by omega) (by omega) (by omega) (by omega)).mono ?_; rintro e w3 ⟨rfl, hb⟩; have BK3 := Aside0.mk (show w3.heap[w.heap.size]? = some (.cells #[.int .i64 0, .int .i64 0, .int .i64 0, .int .i64 0, .int .i64 0, .int .i64 0, .int .i64 0, .int .i64 0, .int .i64 0] 23 (0, 0)) from blk_below (bA BK1.out) hb); have BK4 := Aside0.mk (show w3.heap[w.heap.size + 1]? = some (.cells (tabF F 2) 23 (0, 0)) from blk_below (bA BK2.out) hb); have HB3 := Aside0.mk (show Below w.heap.size w w3 from below_step (bB HB.out) hb); have hs4 : w3.cell? ⟨w.heap.size + 1, 2, none⟩ = some (.int .i64 0) := (blk_cell BK4.out 2).trans rfl; have hf4 := blk_frozen BK4.out 2; clear hb)
      go_roundg (gk - 1)
      case measure => have := HA.out.2; omega
      case rel => exact ⟨3, rfl, ⟨trivial, by omega, by have := HA.out.2; omega⟩, ⟨blk_far BK3.out (by show w.heap.size ≠ w.heap.size + 1; omega) _⟩, ⟨blk_put BK4.out 2 (.int .i64 (F (-1) 1)) rfl⟩, ⟨below_set HB3.out (Nat.le_succ _)⟩⟩
    · go_wp2_with (refine (HF.out 0 (-1) _ (by repeat (first | (with_reducible first | exact HB.out | apply below_alloc | apply pw_below_drewN | apply below_drew1) | exact HB.out)) (by omega) (by omega) (by omega) (by omega)).mono ?_; rintro e w3 ⟨rfl, hb⟩; have BK3 := Aside0.mk (show w3.heap[w.heap.size]? = some (.cells #[.int .i64 0, .int .i64 0, .int .i64 0, .int .i64 0, .int .i64 0, .int .i64 0, .int .i64 0, .int .i64 0, .int .i64 0] 23 (0, 0)) from blk_below (bA BK1.out) hb); have BK4 := Aside0.mk (show w3.heap[w.heap.size + 1]? = some (.cells (tabF F 3) 23 (0, 0)) from blk_below (bA BK2.out) hb); have HB3 := Aside0.mk (show Below w.heap.size w w3 from below_step (bB HB.out) hb); have hs4 : w3.cell? ⟨w.heap.size + 1, 3, none⟩ = some (.int .i64 0) := (blk_cell BK4.out 3).trans rfl; have hf4 := blk_frozen BK4.out 3; clear hb)
      go_roundg (gk - 1)
      case measure => have := HA.out.2; omega
      case rel => exact ⟨4, rfl, ⟨trivial, by omega, by have := HA.out.2; omega⟩, ⟨blk_far BK3.out (by show w.heap.size ≠ w.heap.size + 1; omega) _⟩, ⟨blk_put BK4.out 3 (.int .i64 (F 0 (-1))) rfl⟩, ⟨below_set HB3.out (Nat.le_succ _)⟩⟩
    · go_wp2_with (refine (HF.out 0 0 _ (by repeat (first | (with_reducible first | exact HB.out | apply below_alloc | apply pw_below_drewN | apply below_drew1) | exact HB.out)) (by omega) (by omega) (by omega) (by omega)).mono ?_; rintro e w3 ⟨rfl, hb⟩; have BK3 := Aside0.mk (show w3.heap[w.heap.size]? = some (.cells #[.int .i64 0, .int .i64 0, .int .i64 0, .int .i64 0, .int .i64 0, .int .i64 0, .int .i64 0, .int .i64 0, .int .i64 0] 23 (0, 0)) from blk_below (bA BK1.out) hb); have BK4 := Aside0.mk (show w3.heap[w.heap.size + 1]? = some (.cells (tabF F 4) 23 (0, 0)) from blk_below (bA BK2.out) hb); have HB3 := Aside0.mk (show Below w.heap.size w w3 from below_step (bB HB.out) hb); have hs4 : w3.cell? ⟨w.heap.size + 1, 4, none⟩ = some (.int .i64 0) := (blk_cell BK4.out 4).trans rfl; have hf4 := blk_frozen BK4.out 4; clear hb)
      go_roundg (gk - 1)
      case measure => have := HA.out.2; omega
      case rel => exact ⟨5, rfl, ⟨trivial, by omega, by have := HA.out.2; omega⟩, ⟨blk_far BK3.out (by show w.heap.size ≠ w.heap.size + 1; omega) _⟩, ⟨blk_put BK4.out 4 (.int .i64 (F 0 0)) rfl⟩, ⟨below_set HB3.out (Nat.le_succ _)⟩⟩
    · go_wp2_with (refine (HF.out 0 1 _ (by repeat (first | (with_reducible first | exact HB.out | apply below_alloc | apply pw_below_drewN | apply below_drew1) | exact HB.out)) (by omega) (by omega) (by omega) (by omega)).mono ?_; rintro e w3 ⟨rfl, hb⟩; have BK3 := Aside0.mk (show w3.heap[w.heap.size]? = some (.cells #[.int .i64 0, .int .i64 0, .int .i64 0, .int .i64 0, .int .i64 0, .int .i64 0, .int .i64 0, .int .i64 0, .int .i64 0] 23 (0, 0)) from blk_below (bA BK1.out) hb); have BK4 := Aside0.mk (show w3.heap[w.heap.size + 1]? = some (.cells (tabF F 5) 23 (0, 0)) from blk_below (bA BK2.out) hb); have HB3 := Aside0.mk (show Below w.heap.size w w3 from below_step (bB HB.out) hb); have hs4 : w3.cell? ⟨w.heap.size + 1, 5, none⟩ = some (.int .i64 0) := (blk_cell BK4.out 5).trans rfl; have hf4 := blk_frozen BK4.out 5; clear hb)
      go_roundg (gk - 1)
      case measure => have := HA.out.2; omega
      case rel => exact ⟨6, rfl, ⟨trivial, by omega, by have := HA.out.2; omega⟩, ⟨blk_far BK3.out (by show w.heap.size ≠ w.heap.size + 1; omega) _⟩, ⟨blk_put BK4.out 5 (.int .i64 (F 0 1)) rfl⟩, ⟨below_set HB3.out (Nat.le_succ _)⟩⟩
    · go_wp2_with (refine (HF.out 1 (-1) _ (by repeat (first | (with_reducible first | exact HB.out | apply below_alloc | apply pw_below_drewN | apply below_drew1) | exact HB.out)) (by omega) (by omega) (by omega) (by omega)).mono ?_; rintro e w3 ⟨rfl, hb⟩; have BK3 := Aside0.mk (show w3.heap[w.heap.size]? = some (.cells #[.int .i64 0, .int .i64 0, .int .i64 0, .int .i64 0, .int .i64 0, .int .i64 0, .int .i64 0, .int .i64 0, .int .i64 0] 23 (0, 0)) from blk_below (bA BK1.out) hb); have BK4 := Aside0.mk (show w3.heap[w.heap.size + 1]? = some (.cells (tabF F 6) 23 (0, 0)) from blk_below (bA BK2.out) hb); have HB3 := Aside0.mk (show Below w.heap.size w w3 from below_step (bB HB.out) hb); have hs4 : w3.cell? ⟨w.heap.size + 1, 6, none⟩ = some (.int .i64 0) := (blk_cell BK4.out 6).trans rfl; have hf4 := blk_frozen BK4.out 6; clear hb)
      go_roundg (gk - 1)
      case measure => have := HA.out.2; omega
      case rel => exact ⟨7, rfl, ⟨trivial, by omega, by have := HA.out.2; omega⟩, ⟨blk_far BK3.out (by show w.heap.size ≠ w.heap.size + 1; omega) _⟩, ⟨blk_put BK4.out 6 (.int .i64 (F 1 (-1))) rfl⟩, ⟨below_set HB3.out (Nat.le_succ _)⟩⟩
    · go_wp2_with (refine (HF.out 1 0 _ (by repeat (first | (with_reducible first | exact HB.out | apply below_alloc | apply pw_below_drewN | apply below_drew1) | exact HB.out)) (by omega) (by omega) (by omega) (by omega)).mono ?_; rintro e w3 ⟨rfl, hb⟩; have BK3 := Aside0.mk (show w3.heap[w.heap.size]? = some (.cells #[.int .i64 0, .int .i64 0, .int .i64 0, .int .i64 0, .int .i64 0, .int .i64 0, .int .i64 0, .int .i64 0, .int .i64 0] 23 (0, 0)) from blk_below (bA BK1.out) hb); have BK4 := Aside0.mk (show w3.heap[w.heap.size + 1]? = some (.cells (tabF F 7) 23 (0, 0)) from blk_below (bA BK2.out) hb); have HB3 := Aside0.mk (show Below w.heap.size w w3 from below_step (bB HB.out) hb); have hs4 : w3.cell? ⟨w.heap.size + 1, 7, none⟩ = some (.int .i64 0) := (blk_cell BK4.out 7).trans rfl; have hf4 := blk_frozen BK4.out 7; clear hb)
      go_roundg (gk - 1)
      case measure => have := HA.out.2; omega
      case rel => exact ⟨8, rfl, ⟨trivial, by omega, by have := HA.out.2; omega⟩, ⟨blk_far BK3.out (by show w.heap.size ≠ w.heap.size + 1; omega) _⟩, ⟨blk_put BK4.out 7 (.int .i64 (F 1 0)) rfl⟩, ⟨below_set HB3.out (Nat.le_succ _)⟩⟩
    · go_wp2_with (refine (HF.out 1 1 _ (by repeat (first | (with_reducible first | exact HB.out | apply below_alloc | apply pw_below_drewN | apply below_drew1) | exact HB.out)) (by omega) (by omega) (by omega) (by omega)).mono ?_; rintro e w3 ⟨rfl, hb⟩; have BK3 := Aside0.mk (show w3.heap[w.heap.size]? = some (.cells #[.int .i64 0, .int .i64 0, .int .i64 0, .int .i64 0, .int .i64 0, .int .i64 0, .int .i64 0, .int .i64 0, .int .i64 0] 23 (0, 0)) from blk_below (bA BK1.out) hb); have BK4 := Aside0.mk (show w3.heap[w.heap.size + 1]? = some (.cells (tabF F 8) 23 (0, 0)) from blk_below (bA BK2.out) hb); have HB3 := Aside0.mk (show Below w.heap.size w w3 from below_step (bB HB.out) hb); have hs4 : w3.cell? ⟨w.heap.size + 1, 8, none⟩ = some (.int .i64 0) := (blk_cell BK4.out 8).trans rfl; have hf4 := blk_frozen BK4.out 8; clear hb)
      go_roundg (gk - 1)
      case measure => have := HA.out.2; omega
      case rel => exact ⟨9, rfl, ⟨trivial, by omega, by have := HA.out.2; omega⟩, ⟨blk_far BK3.out (by show w.heap.size ≠ w.heap.size + 1; omega) _⟩, ⟨blk_put BK4.out 8 (.int .i64 (F 1 1)) rfl⟩, ⟨below_set HB3.out (Nat.le_succ _)⟩⟩

/-! ### impl_LiteralTable: function 15 -/
def litv (x a : Int) : Int := if a = x then 1 else -1
theorem lit_clo (a b x : Int) (g : Nat) (w : World) (hc : w.cell? ⟨g, 0, none⟩ = some (.int .i64 x)) :
    Calls Try.prog 52 #[.int .i64 a, .int .i64 b, .pointer (some ⟨g, 0, none⟩)] w fun e w' => e = .returned (.int .i64 (litv x a)) ∧ Below w.heap.size w w' := by
  have HB := Aside0.mk (Below.refl w.heap.size w)
  by_cases h : a = x
  · have e1 : (a == x) = true := by simp [h]
    have E := Aside0.mk (show litv x a = 1 from if_pos h)
    clear h
    go_enter Try.func52, Try.ntmps52
    go_wp2
    go_ret
    exact ⟨congrArg (fun b_ => Ending.returned (Value.int .i64 b_)) E.out.symm, by repeat (first | (with_reducible first | exact HB.out | apply below_alloc | apply pw_below_drewN | apply below_drew1 | refine below_set ?_ (by omega)) | exact HB.out)⟩
  · have e1 : (a == x) = false := by simp [h]
    have E := Aside0.mk (show litv x a = -1 from if_neg h)
    clear h
    go_enter Try.func52, Try.ntmps52
    go_wp2
    go_ret
    exact ⟨congrArg (fun b_ => Ending.returned (Value.int .i64 b_)) E.out.symm, by repeat (first | (with_reducible first | exact HB.out | apply below_alloc | apply pw_below_drewN | apply below_drew1 | refine below_set ?_ (by omega)) | exact HB.out)⟩
def impl_LiteralTable.f (a0 : Int) : Option (Int × Int × Int × Int × Int × Int × Int × Int × Int) := if trB a0 = true then some ((litv a0 (-1)), (litv a0 (-1)), (litv a0 (-1)), (litv a0 0), (litv a0 0), (litv a0 0), (litv a0 1), (litv a0 1), (litv a0 1)) else some (0, 0, 0, 0, 0, 0, 0, 0, 0)
set_option maxHeartbeats 8000000 in
set_option maxRecDepth 100000 in
theorem impl_LiteralTable.calls (a0 : Int) (r1 r2 r3 r4 r5 r6 r7 r8 r9 : Int) (w : World) (h : impl_LiteralTable.f a0 = some (r1, r2, r3, r4, r5, r6, r7, r8, r9)) :
    Calls Try.prog 15 #[.int .i64 a0] w fun e w' => e = .returned (.agg #[.int .i64 r1, .int .i64 r2, .int .i64 r3, .int .i64 r4, .int .i64 r5, .int .i64 r6, .int .i64 r7, .int .i64 r8, .int .i64 r9]) ∧ Below w.heap.size w w' := by
  unfold impl_LiteralTable.f at h
  have HB := Aside0.mk (Below.refl w.heap.size w)
  cases c : trB a0 with
  | true =>
    rw [c, if_pos rfl] at h
    have h2 := Option.some.inj h
    simp only [Prod.mk.injEq] at h2
    obtain ⟨rfl, rfl, rfl, rfl, rfl, rfl, rfl, rfl, rfl⟩ := h2
    have HT := Aside0.mk ((impl_trB a0).trans (congrArg some c))
    clear h c
    go_enter Try.func15, Try.ntmps15
    go_wp2_with (first | (go_at_call 50; (with_reducible refine (impl_IsTrit.calls a0 true _ HT.out).mono ?_); rintro e w' ⟨rfl, ⟨nd, rfl⟩⟩) | (go_at_call 51; (refine (tabled_any 52 _ #[.pointer (some ⟨w.heap.size, 0, none⟩)] (fun a _ => litv a0 a) _ Try.func52 rfl (by kernel_rfl) ?s1).mono ?_); (case s1 => intro a b W hW _ _ _ _; refine lit_clo a b a0 _ W ((blk_cell (cs := #[.int .i64 a0]) (t := 3) (blk_below ?q1 hW) 0).trans rfl); (case q1 => repeat (first | exact blk_new _ _ | (with_reducible refine blk_drewN ?_ _) | (with_reducible refine blk_drew ?_) | refine blk_alloc ?_ _))); rintro e w2 ⟨rfl, hb⟩; have h_ := blk_new (w.alloc (.cells #[.int .i64 a0] 3)) (.cells #[.int .i64 0, .int .i64 0, .int .i64 0, .int .i64 0, .int .i64 0, .int .i64 0, .int .i64 0, .int .i64 0, .int .i64 0] 23); have e_ : (w.alloc (.cells #[.int .i64 a0] 3)).heap.size = w.heap.size + 1 := Array.size_push _; rw [e_] at h_; have BKr := Aside0.mk (show w2.heap[w.heap.size + 1]? = some (.cells #[.int .i64 0, .int .i64 0, .int .i64 0, .int .i64 0, .int .i64 0, .int .i64 0, .int .i64 0, .int .i64 0, .int .i64 0] 23 (0, 0)) from blk_below (blk_drewN h_ _) hb); have HB2 := Aside0.mk (below_step (show Below w.heap.size w _ from by repeat (first | (with_reducible first | exact HB.out | apply below_alloc | apply pw_below_drewN | apply below_drew1) | exact HB.out)) hb); have hs0 : w2.cell? ⟨w.heap.size + 1, 0, none⟩ = some (.int .i64 0) := (blk_cell BKr.out 0).trans rfl; have hf0 := blk_frozen BKr.out 0; have hs1 : w2.cell? ⟨w.heap.size + 1, 1, none⟩ = some (.int .i64 0) := (blk_cell BKr.out 1).trans rfl; have hf1 := blk_frozen BKr.out 1; have hs2 : w2.cell? ⟨w.heap.size + 1, 2, none⟩ = some (.int .i64 0) := (blk_cell BKr.out 2).trans rfl; have hf2 := blk_frozen BKr.out 2; have hs3 : w2.cell? ⟨w.heap.size + 1, 3, none⟩ = some (.int .i64 0) := (blk_cell BKr.out 3).trans rfl; have hf3 := blk_frozen BKr.out 3; have hs4 : w2.cell? ⟨w.heap.size + 1, 4, none⟩ = some (.int .i64 0) := (blk_cell BKr.out 4).trans rfl; have hf4 := blk_frozen BKr.out 4; have hs5 : w2.cell? ⟨w.heap.size + 1, 5, none⟩ = some (.int .i64 0) := (blk_cell BKr.out 5).trans rfl; have hf5 := blk_frozen BKr.out 5; have hs6 : w2.cell? ⟨w.heap.size + 1, 6, none⟩ = some (.int .i64 0) := (blk_cell BKr.out 6).trans rfl; have hf6 := blk_frozen BKr.out 6; have hs7 : w2.cell? ⟨w.heap.size + 1, 7, none⟩ = some (.int .i64 0) := (blk_cell BKr.out 7).trans rfl; have hf7 := blk_frozen BKr.out 7; have hs8 : w2.cell? ⟨w.heap.size + 1, 8, none⟩ = some (.int .i64 0) := (blk_cell BKr.out 8).trans rfl; have hf8 := blk_frozen BKr.out 8; clear hb h_ e_))
    refine bodyPost_ret (v := .agg #[.int .i64 (litv a0 (-1)), .int .i64 (litv a0 (-1)), .int .i64 (litv a0 (-1)), .int .i64 (litv a0 0), .int .i64 (litv a0 0), .int .i64 (litv a0 0), .int .i64 (litv a0 1), .int .i64 (litv a0 1), .int .i64 (litv a0 1)]) ?hr1 rfl ?_; (case hr1 => refine results_cell_row rfl _ _ (w.heap.size + 1) 23 #[.int .i64 (litv a0 (-1)), .int .i64 (litv a0 (-1)), .int .i64 (litv a0 (-1)), .int .i64 (litv a0 0), .int .i64 (litv a0 0), .int .i64 (litv a0 0), .int .i64 (litv a0 1), .int .i64 (litv a0 1), .int .i64 (litv a0 1)] (0, 0) _ rfl ?hg1 Try.underlying23 rfl (by kernel_rfl); (case hg1 => refine blk_put (cs := #[.int .i64 (litv a0 (-1)), .int .i64 (litv a0 (-1)), .int .i64 (litv a0 (-1)), .int .i64 (litv a0 0), .int .i64 (litv a0 0), .int .i64 (litv a0 0), .int .i64 (litv a0 1), .int .i64 (litv a0 1), .int .i64 0]) ?_ 8 (.int .i64 (litv a0 1)) rfl; refine blk_put (cs := #[.int .i64 (litv a0 (-1)), .int .i64 (litv a0 (-1)), .int .i64 (litv a0 (-1)), .int .i64 (litv a0 0), .int .i64 (litv a0 0), .int .i64 (litv a0 0), .int .i64 (litv a0 1), .int .i64 0, .int .i64 0]) ?_ 7 (.int .i64 (litv a0 1)) rfl; refine blk_put (cs := #[.int .i64 (litv a0 (-1)), .int .i64 (litv a0 (-1)), .int .i64 (litv a0 (-1)), .int .i64 (litv a0 0), .int .i64 (litv a0 0), .int .i64 (litv a0 0), .int .i64 0, .int .i64 0, .int .i64 0]) ?_ 6 (.int .i64 (litv a0 1)) rfl; refine blk_put (cs := #[.int .i64 (litv a0 (-1)), .int .i64 (litv a0 (-1)), .int .i64 (litv a0 (-1)), .int .i64 (litv a0 0), .int .i64 (litv a0 0), .int .i64 0, .int .i64 0, .int .i64 0, .int .i64 0]) ?_ 5 (.int .i64 (litv a0 0)) rfl; refine blk_put (cs := #[.int .i64 (litv a0 (-1)), .int .i64 (litv a0 (-1)), .int .i64 (litv a0 (-1)), .int .i64 (litv a0 0), .int .i64 0, .int .i64 0, .int .i64 0, .int .i64 0, .int .i64 0]) ?_ 4 (.int .i64 (litv a0 0)) rfl; refine blk_put (cs := #[.int .i64 (litv a0 (-1)), .int .i64 (litv a0 (-1)), .int .i64 (litv a0 (-1)), .int .i64 0, .int .i64 0, .int .i64 0, .int .i64 0, .int .i64 0, .int .i64 0]) ?_ 3 (.int .i64 (litv a0 0)) rfl; refine blk_put (cs := #[.int .i64 (litv a0 (-1)), .int .i64 (litv a0 (-1)), .int .i64 0, .int .i64 0, .int .i64 0, .int .i64 0, .int .i64 0, .int .i64 0, .int .i64 0]) ?_ 2 (.int .i64 (litv a0 (-1))) rfl; refine blk_put (cs := #[.int .i64 (litv a0 (-1)), .int .i64 0, .int .i64 0, .int .i64 0, .int .i64 0, .int .i64 0, .int .i64 0, .int .i64 0, .int .i64 0]) ?_ 1 (.int .i64 (litv a0 (-1))) rfl; refine blk_put (cs := #[.int .i64 0, .int .i64 0, .int .i64 0, .int .i64 0, .int .i64 0, .int .i64 0, .int .i64 0, .int .i64 0, .int .i64 0]) ?_ 0 (.int .i64 (litv a0 (-1))) rfl; exact BKr.out))
    exact ⟨rfl, below_set (below_set (below_set (below_set (below_set (below_set (below_set (below_set (below_set (HB2.out) (Nat.le_succ _)) (Nat.le_succ _)) (Nat.le_succ _)) (Nat.le_succ _)) (Nat.le_succ _)) (Nat.le_succ _)) (Nat.le_succ _)) (Nat.le_succ _)) (Nat.le_succ _)⟩
  | false =>
    rw [c, if_neg (by decide)] at h
    have h2 := Option.some.inj h
    simp only [Prod.mk.injEq] at h2
    obtain ⟨rfl, rfl, rfl, rfl, rfl, rfl, rfl, rfl, rfl⟩ := h2
    have HT := Aside0.mk ((impl_trB a0).trans (congrArg some c))
    clear h c
    go_enter Try.func15, Try.ntmps15
    go_wp2_with (go_at_call 50; (with_reducible refine (impl_IsTrit.calls a0 false _ HT.out).mono ?_); rintro e w' ⟨rfl, ⟨nd, rfl⟩⟩)
    have h_ := blk_new (w.alloc (.cells #[.int .i64 a0] 3)) (.cells #[.int .i64 0, .int .i64 0, .int .i64 0, .int .i64 0, .int .i64 0, .int .i64 0, .int .i64 0, .int .i64 0, .int .i64 0] 23); have e_ : (w.alloc (.cells #[.int .i64 a0] 3)).heap.size = w.heap.size + 1 := Array.size_push _; rw [e_] at h_; have BK0 := h_
    refine bodyPost_ret (v := .agg #[.int .i64 0, .int .i64 0, .int .i64 0, .int .i64 0, .int .i64 0, .int .i64 0, .int .i64 0, .int .i64 0, .int .i64 0]) ?hr rfl ?_; (case hr => refine results_cell_row rfl _ _ (w.heap.size + 1) 23 #[.int .i64 0, .int .i64 0, .int .i64 0, .int .i64 0, .int .i64 0, .int .i64 0, .int .i64 0, .int .i64 0, .int .i64 0] (0, 0) _ rfl ?hg Try.underlying23 rfl (by kernel_rfl); (case hg => refine blk_put (cs := #[.int .i64 0, .int .i64 0, .int .i64 0, .int .i64 0, .int .i64 0, .int .i64 0, .int .i64 0, .int .i64 0, .int .i64 0]) ?_ 8 (.int .i64 0) rfl; refine blk_put (cs := #[.int .i64 0, .int .i64 0, .int .i64 0, .int .i64 0, .int .i64 0, .int .i64 0, .int .i64 0, .int .i64 0, .int .i64 0]) ?_ 7 (.int .i64 0) rfl; refine blk_put (cs := #[.int .i64 0, .int .i64 0, .int .i64 0, .int .i64 0, .int .i64 0, .int .i64 0, .int .i64 0, .int .i64 0, .int .i64 0]) ?_ 6 (.int .i64 0) rfl; refine blk_put (cs := #[.int .i64 0, .int .i64 0, .int .i64 0, .int .i64 0, .int .i64 0, .int .i64 0, .int .i64 0, .int .i64 0, .int .i64 0]) ?_ 5 (.int .i64 0) rfl; refine blk_put (cs := #[.int .i64 0, .int .i64 0, .int .i64 0, .int .i64 0, .int .i64 0, .int .i64 0, .int .i64 0, .int .i64 0, .int .i64 0]) ?_ 4 (.int .i64 0) rfl; refine blk_put (cs := #[.int .i64 0, .int .i64 0, .int .i64 0, .int .i64 0, .int .i64 0, .int .i64 0, .int .i64 0, .int .i64 0, .int .i64 0]) ?_ 3 (.int .i64 0) rfl; refine blk_put (cs := #[.int .i64 0, .int .i64 0, .int .i64 0, .int .i64 0, .int .i64 0, .int .i64 0, .int .i64 0, .int .i64 0, .int .i64 0]) ?_ 2 (.int .i64 0) rfl; refine blk_put (cs := #[.int .i64 0, .int .i64 0, .int .i64 0, .int .i64 0, .int .i64 0, .int .i64 0, .int .i64 0, .int .i64 0, .int .i64 0]) ?_ 1 (.int .i64 0) rfl; refine blk_put (cs := #[.int .i64 0, .int .i64 0, .int .i64 0, .int .i64 0, .int .i64 0, .int .i64 0, .int .i64 0, .int .i64 0, .int .i64 0]) ?_ 0 (.int .i64 0) rfl; exact blk_drewN BK0 _))
    exact ⟨rfl, below_set (below_set (below_set (below_set (below_set (below_set (below_set (below_set (below_set ((show Below w.heap.size w _ from by repeat (first | (with_reducible first | exact HB.out | apply below_alloc | apply pw_below_drewN | apply below_drew1) | exact HB.out))) (Nat.le_succ _)) (Nat.le_succ _)) (Nat.le_succ _)) (Nat.le_succ _)) (Nat.le_succ _)) (Nat.le_succ _)) (Nat.le_succ _)) (Nat.le_succ _)) (Nat.le_succ _)⟩

/-! ### impl_Circuit_put: function 69 -/
theorem R_append_stepD {P : Program} {ops : Array Oper} {o : Oper} {a : Act} {Kc : Act → World → Prop} {Q : Exit → Act → World → Prop} {E : Prop} {α : Type} (d : Kd α) {w0 W : World} (base : Nat) (hg : o.guard = none) (s x : Operand) (t e : TypeId) (z : Value) (bytes : Nat)
    (ho : o.op = .call { callee := .builtin .append, args := #[s, x], argTypes := #[t, t] })
    (ht : P.underlying t = some (.slice e)) (hinfo : (P.info? e).map (fun i => (i.zero, i.size, i.bytes)) = some (some z, d.sz, bytes)) (hz : z.cells.size = d.sz) (hs0 : 0 < d.sz) (hb0 : 0 < bytes)
    (v : Value) (xs : List α) (p : α) (cs : List Value) (ok okp : Nat → Prop) (hs : a.eval s = v) (hx : a.eval x = .slice (some ⟨W.heap.size, 0, none⟩) 1 1) (hp : d.M W.drew base okp p cs) (hokp : ∀ k, okp k → ok k ∧ some k ≠ v.ownBlock) (hfresh : ∀ k, W.heap.size ≤ k → ok k)
    (HO : d.R e W.drew base ok v xs) (HB : Below base w0 W.drew) (hbase : base ≤ W.heap.size) (hl : (xs.length + 1) * bytes ≤ 140737488355328)
    (h : ∀ v1 w1, d.R e w1 base ok v1 (xs ++ [p]) → Below base w0 w1 → W.drew.grownBy w1 v.ownBlock → (v1.ownBlock = v.ownBlock ∨ ∃ b, v1.ownBlock = some b ∧ W.heap.size ≤ b) → Kc (a.put o.dst v1) w1) :
    if Region.wanted o (yielded ops a.tmps) = true then Oper.wp P o a ((W.alloc (.cells cs.toArray e)).drew) Kc Q else E := by
  have hw : Region.wanted o (yielded ops a.tmps) = true := by simp [Region.wanted, hg]
  rw [if_pos hw]
  have := Kd.R_append_step (P := P) (ops := ops) (o := o) (a := a) (Kc := Kc) (Q := Q) d (w0 := w0) (W := W.drew) base hw s x t e z bytes ho ht hinfo hz hs0 hb0 v xs p cs ok okp hs hx hp hokp hfresh HO HB hbase hl h
  rw [if_pos hw] at this
  exact this
theorem put_info : (Try.prog.info? 46).map (fun i => (i.zero, i.size, i.bytes)) = some (some (.agg #[.int .i64 0, .int .i64 0, .int .i64 0, .int .i64 0, .int .i64 0, .int .i64 0, .int .i64 0, .int .i64 0, .int .i64 0, .int .i64 0, .int .i64 0]), 11, 88) := by kernel_rfl
theorem set_drewN_ (w : World) (p : Addr) (v : Value) (n : Nat) : (w.setCell p v).drewN n = (w.drewN n).setCell p v := rfl
set_option maxHeartbeats 8000000 in
set_option maxRecDepth 100000 in
/-- A gate is added to a circuit that lies in memory: its row of gates grows by one and is stored back, and its line is told. -/
theorem impl_Circuit_put.row (g : Nat) (I : Int) (v vO : Value) (gs ys : List S46) (t0 t1 t2 t3 t4 t5 t6 t7 t8 a b : Int) (base : Nat) (ok : Nat → Prop) (w0 w : World) (hy : ys = gs ++ [(⟨(⟨t0, t1, t2, t3, t4, t5, t6, t7, t8⟩ : S23), a, b⟩ : S46)]) (hbox : w.heap[g]? = some (.cells #[.int .i64 I, v, vO] 35 (0, 0))) (hfresh : ∀ k, w.heap.size ≤ k → ok k) (hR : Kd.R k46 46 w base ok v gs)
    (hB : Below base w0 w) (hbase : base ≤ w.heap.size) (hl : (gs.length + 1) * 88 ≤ 140737488355328) :
    Calls Try.prog 69 #[.pointer (some ⟨g, 0, none⟩), .agg #[.int .i64 t0, .int .i64 t1, .int .i64 t2, .int .i64 t3, .int .i64 t4, .int .i64 t5, .int .i64 t6, .int .i64 t7, .int .i64 t8], .int .i64 a, .int .i64 b] w fun e w' => ∃ (v1 : Value) (w1 : World), e = .returned (.int .i64 (wrap64 (wrap64 (2 + I) + (ys.length : Int)))) ∧ w' = w1.setCell ⟨g, 1, none⟩ v1 ∧
      Kd.R k46 46 w1 base ok v1 ys ∧ Below base w0 w1 ∧ w.grownBy w1 v.ownBlock ∧ (v1.ownBlock = v.ownBlock ∨ ∃ b, v1.ownBlock = some b ∧ w.heap.size ≤ b) := by
  obtain ⟨A, c, ev⟩ := Kd.R_slice hR
  subst ev
  have hu35 := Try.underlying35
  have hu23 := Try.underlying23
  have hu46 := Try.underlying46
  have HB := Aside0.mk hB
  have HR := Aside0.mk hR
  have BK := Aside0.mk hbox
  have HX := Aside0.mk (show base ≤ w.heap.size ∧ (gs.length + 1) * 88 ≤ 140737488355328 from ⟨hbase, hl⟩)
  have HF := Aside0.mk hfresh
  have HNE := Aside0.mk (Kd.R_ne hR hbox (by decide))
  have HGE := Aside0.mk hy
  clear hR hbox hbase hl hB hfresh hy
  go_enter Try.func69, Try.ntmps69
  have hg1 : (w.alloc (.cells #[.int .i64 t0, .int .i64 t1, .int .i64 t2, .int .i64 t3, .int .i64 t4, .int .i64 t5, .int .i64 t6, .int .i64 t7, .int .i64 t8] 23)).heap[g]? = some (.cells #[.int .i64 I, .slice A gs.length c, vO] 35 (0, 0)) := blk_alloc BK.out _
  have hg2 := blk_new w (.cells #[.int .i64 t0, .int .i64 t1, .int .i64 t2, .int .i64 t3, .int .i64 t4, .int .i64 t5, .int .i64 t6, .int .i64 t7, .int .i64 t8] 23)
  have hz1 : (w.alloc (.cells #[.int .i64 t0, .int .i64 t1, .int .i64 t2, .int .i64 t3, .int .i64 t4, .int .i64 t5, .int .i64 t6, .int .i64 t7, .int .i64 t8] 23)).heap.size = w.heap.size + 1 := Array.size_push _
  have HR1 := Aside0.mk (Kd.R_alloc HR.out (.cells #[.int .i64 t0, .int .i64 t1, .int .i64 t2, .int .i64 t3, .int .i64 t4, .int .i64 t5, .int .i64 t6, .int .i64 t7, .int .i64 t8] 23))
  have HB1 := Aside0.mk (show Below base w0 (w.alloc (.cells #[.int .i64 t0, .int .i64 t1, .int .i64 t2, .int .i64 t3, .int .i64 t4, .int .i64 t5, .int .i64 t6, .int .i64 t7, .int .i64 t8] 23)) from HB.out.alloc HX.out.1 _)
  have HK1 := Aside0.mk (show KeepBut w (w.alloc (.cells #[.int .i64 t0, .int .i64 t1, .int .i64 t2, .int .i64 t3, .int .i64 t4, .int .i64 t5, .int .i64 t6, .int .i64 t7, .int .i64 t8] 23)) g (Value.slice A gs.length c).ownBlock from ⟨by rw [hz1]; omega, fun i hi _ _ => by show (w.heap.push _)[i]? = _; rw [Array.getElem?_push]; exact if_neg (by omega)⟩)
  have HO1 := Aside0.mk (show (w.alloc (.cells #[.int .i64 t0, .int .i64 t1, .int .i64 t2, .int .i64 t3, .int .i64 t4, .int .i64 t5, .int .i64 t6, .int .i64 t7, .int .i64 t8] 23)).os = w.os ∧ (w.alloc (.cells #[.int .i64 t0, .int .i64 t1, .int .i64 t2, .int .i64 t3, .int .i64 t4, .int .i64 t5, .int .i64 t6, .int .i64 t7, .int .i64 t8] 23)).tape = w.tape ∧ (w.alloc (.cells #[.int .i64 t0, .int .i64 t1, .int .i64 t2, .int .i64 t3, .int .i64 t4, .int .i64 t5, .int .i64 t6, .int .i64 t7, .int .i64 t8] 23)).output = w.output from ⟨rfl, rfl, rfl⟩)
  have HN1 := Aside0.mk (show ∀ i, i < w.heap.size → (w.alloc (.cells #[.int .i64 t0, .int .i64 t1, .int .i64 t2, .int .i64 t3, .int .i64 t4, .int .i64 t5, .int .i64 t6, .int .i64 t7, .int .i64 t8] 23)).heap[i]? = w.heap[i]? from fun i hi => by show (w.heap.push _)[i]? = _; rw [Array.getElem?_push]; exact if_neg (by omega))
  go_wp2
  obtain ⟨w1, hw1⟩ : ∃ w1, w1 = w.alloc (.cells #[.int .i64 t0, .int .i64 t1, .int .i64 t2, .int .i64 t3, .int .i64 t4, .int .i64 t5, .int .i64 t6, .int .i64 t7, .int .i64 t8] 23) := ⟨_, rfl⟩
  rw [← hw1] at hg1 hg2 hz1 HR1 HB1 HK1 HO1 HN1 ⊢
  clear hw1
  have HG1 := Aside0.mk hg1
  have HZ1 := Aside0.mk hz1
  have hs0 : w1.cell? ⟨g, 0, none⟩ = some (.int .i64 I) := (blk_cell hg1 0).trans rfl
  have hs1 : w1.cell? ⟨g, 1, none⟩ = some (.slice A gs.length c) := (blk_cell hg1 1).trans rfl
  have hs2 : w1.cell? ⟨g, 2, none⟩ = some vO := (blk_cell hg1 2).trans rfl
  have ht0 : w1.cell? ⟨w.heap.size, 0, none⟩ = some (.int .i64 t0) := (blk_cell hg2 0).trans rfl
  have ht1 : w1.cell? ⟨w.heap.size, 1, none⟩ = some (.int .i64 t1) := (blk_cell hg2 1).trans rfl
  have ht2 : w1.cell? ⟨w.heap.size, 2, none⟩ = some (.int .i64 t2) := (blk_cell hg2 2).trans rfl
  have ht3 : w1.cell? ⟨w.heap.size, 3, none⟩ = some (.int .i64 t3) := (blk_cell hg2 3).trans rfl
  have ht4 : w1.cell? ⟨w.heap.size, 4, none⟩ = some (.int .i64 t4) := (blk_cell hg2 4).trans rfl
  have ht5 : w1.cell? ⟨w.heap.size, 5, none⟩ = some (.int .i64 t5) := (blk_cell hg2 5).trans rfl
  have ht6 : w1.cell? ⟨w.heap.size, 6, none⟩ = some (.int .i64 t6) := (blk_cell hg2 6).trans rfl
  have ht7 : w1.cell? ⟨w.heap.size, 7, none⟩ = some (.int .i64 t7) := (blk_cell hg2 7).trans rfl
  have ht8 : w1.cell? ⟨w.heap.size, 8, none⟩ = some (.int .i64 t8) := (blk_cell hg2 8).trans rfl
  have hlt1 : g < w1.heap.size := blk_lt hg1
  have hlt2 : w.heap.size < w1.heap.size := blk_lt hg2
  have hne1 : g ≠ w1.heap.size := Nat.ne_of_lt hlt1
  have hne2 : w.heap.size ≠ w1.heap.size := Nat.ne_of_lt hlt2
  clear hg1 hg2 hz1
  go_region_law (refine R_append_stepD k46 (w0 := w0) base rfl (.tmp 13) (.tmp 18) 33 46 (.agg #[.int .i64 0, .int .i64 0, .int .i64 0, .int .i64 0, .int .i64 0, .int .i64 0, .int .i64 0, .int .i64 0, .int .i64 0, .int .i64 0, .int .i64 0]) 88 rfl Try.underlying33 put_info rfl (by decide) (by decide) (.slice A gs.length c) gs (⟨(⟨t0, t1, t2, t3, t4, t5, t6, t7, t8⟩ : S23), a, b⟩ : S46) [.int .i64 t0, .int .i64 t1, .int .i64 t2, .int .i64 t3, .int .i64 t4, .int .i64 t5, .int .i64 t6, .int .i64 t7, .int .i64 t8, .int .i64 a, .int .i64 b] ok (fun k => ok k ∧ some k ≠ (Value.slice A gs.length c).ownBlock) rfl rfl (k46_mkM _ _ _ _) (fun _ hk => hk) ?c1 ?c2 ?c3 ?c4 ?c5 ?_; (case c1 => exact fun k hk => HF.out k (by have := HZ1.out; omega)); (case c2 => exact Kd.R_drew HR1.out); (case c3 => exact below_drew1 HB1.out); (case c4 => have := HX.out.1; have := HZ1.out; omega); (case c5 => exact HX.out.2); intro v2 w2 hR2 hB2 hG2 hA2; rw [← HGE.out] at hR2; obtain ⟨A2, c2, e2⟩ := Kd.R_slice hR2; subst e2; have hb2 := blk_grown (blk_drew HG1.out) hG2 HNE.out; have hs5 : w2.cell? ⟨g, 1, none⟩ = some (.slice A gs.length c) := (blk_cell hb2 1).trans rfl; have hf5 := blk_frozen hb2 1; have HR2 := Aside0.mk hR2; have HB2 := Aside0.mk hB2; have HK2 := Aside0.mk hG2; have HG2 := Aside0.mk hb2; have HA2 := Aside0.mk hA2; clear hR2 hB2 hG2 hb2 hA2)
  all_goals
    have HG3 := Aside0.mk (blk_put HG2.out 1 (.slice A2 ys.length c2) (rfl : _ = #[.int .i64 I, .slice A2 ys.length c2, vO]))
    have HGR := Aside0.mk (show w.grownBy w2 (Value.slice A gs.length c).ownBlock from ⟨HK2.out.os.trans HO1.out.1, HK2.out.tape.trans HO1.out.2.1, HK2.out.output.trans HO1.out.2.2, Nat.le_trans HK1.out.1 HK2.out.size, fun i hi h2 => by
      have h1 := HK2.out.block i (by have := HK1.out.1; show i < w1.heap.size; omega) h2
      refine h1.trans ?_
      exact HN1.out i hi⟩)
    have HAR := Aside0.mk (show (Value.slice A2 ys.length c2).ownBlock = (Value.slice A gs.length c).ownBlock ∨ ∃ b, (Value.slice A2 ys.length c2).ownBlock = some b ∧ w.heap.size ≤ b from HA2.out.imp id fun ⟨b, h1, h2⟩ => ⟨b, h1, Nat.le_trans HK1.out.1 h2⟩)
    obtain ⟨w3, hw3⟩ : ∃ w3, w3 = w2.setCell ⟨g, 1, none⟩ (.slice A2 ys.length c2) := ⟨_, rfl⟩
    rw [← hw3] at HG3 ⊢
    have HW3 := Aside0.mk hw3
    clear hw3
    have hu0 : w3.cell? ⟨g, 0, none⟩ = some (.int .i64 I) := (blk_cell HG3.out 0).trans rfl
    have hu1 : w3.cell? ⟨g, 1, none⟩ = some (.slice A2 ys.length c2) := (blk_cell HG3.out 1).trans rfl
    try go_wp2
    repeat (go_quiet (fail); try go_wp2)
    go_ret
    obtain ⟨hw3⟩ := HW3
    subst hw3
    exact ⟨_, _, rfl, set_drewN_ _ _ _ _, Kd.R_drewN HR2.out _, pw_below_drewN HB2.out _, ⟨HGR.out.os, HGR.out.tape, HGR.out.output, HGR.out.size, HGR.out.block⟩, HAR.out⟩

/-! ### impl_MinTrits: function 91 -/
def impl_MinTrits.f (k : Nat) (a0 : Int) (a1 : Int) : Option (Int) := (impl_trits.f k (([a0, a1] : List Int))).bind fun t104 => (if t104 = true then (some (mn a0 a1)) else (some 0))
set_option maxHeartbeats 8000000 in
set_option maxRecDepth 100000 in
theorem impl_MinTrits.calls (k : Nat) (a0 : Int) (a1 : Int) (r : Int) (w : World) (h : impl_MinTrits.f k a0 a1 = some r) :
    Calls Try.prog 91 #[.int .i64 a0, .int .i64 a1] w fun e w' => e = .returned (.int .i64 r) ∧ Below w.heap.size w w' := by
  have HB := Aside0.mk (Below.refl w.heap.size w)
  have H : ((impl_trits.f k (([a0, a1] : List Int))).bind fun t104 => (if t104 = true then (some (mn a0 a1)) else (some 0))) = some r := h
  clear h
  obtain ⟨y101, hy101⟩ : ∃ y_ : List Int, y_ = (([a0, a1] : List Int)) := ⟨_, rfl⟩
  replace H : ((impl_trits.f k y101).bind fun t104 => (if t104 = true then (some (mn a0 a1)) else (some 0))) = some r := by first | (rw [hy101]; with_reducible exact H) | (have H2_ := (Option.bind_some _ _).symm.trans H; rw [hy101]; with_reducible exact H2_) | (have H2_ := (Option.bind_some _ _).symm.trans H; with_reducible exact H2_) | with_reducible exact H | (rw [hy101]; exact H) | exact H
  have Ny101 := Aside0.mk hy101
  clear hy101
  replace H := Option.bind_eq_some_iff.mp H
  obtain ⟨t104, A30, H⟩ := H
  replace H : (if t104 = true then (some (mn a0 a1)) else (some 0)) = some r := H
  have A3 := Aside0.mk A30
  clear A30
  by_cases c4 : t104 = true
  · subst c4
    have H1 : (some (mn a0 a1)) = some r := by rw [if_pos rfl] at H; exact H
    clear H
    have H := H1
    clear H1
    obtain ⟨ji5, hji5⟩ : ∃ j_ : Int, (mn a0 a1) = j_ := ⟨_, rfl⟩
    replace H : (some ji5) = some r := by first | (rw [hji5] at H; exact H) | (simp only [hji5] at H ⊢; exact H)
    (try rw [hji5] at A3)
    have hji5_ : (if a1 < a0 then a1 else a0) = ji5 := hji5
    obtain rfl := Option.some.inj H
    go_enter Try.func91, Try.ntmps91
    go_wp2_with (first | ((with_reducible refine gate_dst (N := 7) rfl ?_); refine Kd.R_lit (Kd.int .i64) _ 3 ?hg (N := 7) ?hd (xs := ([a0, a1] : List Int)) (inner := [.int .i64 a0, .int .i64 a1]) (ok := fun _ => True) (okp := fun _ => True) ?hr ?hp (fun _ hk => hk) trivial (Below.refl _ _) (Nat.le_refl _) (by simp) ?_; (case hd => rfl); (case hg => rfl); (case hr => first | (go_simp; done) | (go_simp; rfl)); (case hp => exact (Reps.one (show Kd.M (Kd.int .i64) _ _ _ a0 [.int .i64 a0] from rfl) (Reps.one (show Kd.M (Kd.int .i64) _ _ _ a1 [.int .i64 a1] from rfl) (Reps.none _ _)))); intro v102 w6 ho7 hb hg_ hnew_; clear hg_ hnew_; (first | rw [← Ny101.out] at ho7 | (simp only [Int.reduceToNat] at ho7; rw [← Ny101.out] at ho7)); have n0_ := Aside0.mk (Kd.R_lower ho7 (below_size (by repeat (first | (with_reducible first | exact HB.out | apply below_alloc | apply pw_below_drewN | apply below_drew1) | exact HB.out)))); have n1_ := Aside0.mk (below_step (by repeat (first | (with_reducible first | exact HB.out | apply below_alloc | apply pw_below_drewN | apply below_drew1) | exact HB.out)) hb); clear HB; have HO103 := n0_; have HB := n1_; clear n0_ n1_; clear hb ho7; obtain ⟨Ao8, co8, eo8⟩ := Kd.R_slice HO103.out; subst eo8) | ((with_reducible refine gate_callee (f := 65) rfl ?_); refine goesL_ (some 8) rfl rfl Try.func65 (by kernel_rfl) rfl #[.slice Ao8 y101.length co8] rfl (by (try simp only [List.map_toArray, List.map_cons, List.map_nil]); first | done | rfl | (simp only [List.length_drop, List.length_take]; rfl)) ?_; (with_reducible refine (impl_trits.calls k _ _ y101 true _ ?side1 ?side2 A3.out).mono ?_); (case side1 => repeat (first | exact (Kd.R_reads' HO103.out).2.2 | (with_reducible refine Kd.C_alloc ?_ _) | (with_reducible refine Kd.C_drewN ?_ _) | (with_reducible refine Kd.C_drew ?_))); (case side2 => exact (Kd.R_reads' HO103.out).2.1); rintro e w' ⟨rfl, ⟨nd, rfl⟩⟩; refine ⟨_, rfl, ?_⟩))
    go_ret
    exact ⟨by first | rfl | (simp [errW_none, errW_some] <;> rfl) | (simp only [← hji5]; first | rfl | (simp [errW_none, errW_some] <;> rfl)) | (simp [*, errW_none, errW_some] <;> rfl), by repeat (first | (with_reducible first | exact HB.out | apply below_alloc | apply pw_below_drewN | apply below_drew1) | exact HB.out)⟩
  · replace c4 := Bool.eq_false_iff.mpr c4
    subst c4
    have H1 : (some 0) = some r := by rw [if_neg (show ¬ (false = true) by decide)] at H; exact H
    clear H
    have H := H1
    clear H1
    obtain rfl := Option.some.inj H
    go_enter Try.func91, Try.ntmps91
    go_wp2_with (first | ((with_reducible refine gate_dst (N := 7) rfl ?_); refine Kd.R_lit (Kd.int .i64) _ 3 ?hg (N := 7) ?hd (xs := ([a0, a1] : List Int)) (inner := [.int .i64 a0, .int .i64 a1]) (ok := fun _ => True) (okp := fun _ => True) ?hr ?hp (fun _ hk => hk) trivial (Below.refl _ _) (Nat.le_refl _) (by simp) ?_; (case hd => rfl); (case hg => rfl); (case hr => first | (go_simp; done) | (go_simp; rfl)); (case hp => exact (Reps.one (show Kd.M (Kd.int .i64) _ _ _ a0 [.int .i64 a0] from rfl) (Reps.one (show Kd.M (Kd.int .i64) _ _ _ a1 [.int .i64 a1] from rfl) (Reps.none _ _)))); intro v102 w9 ho10 hb hg_ hnew_; clear hg_ hnew_; (first | rw [← Ny101.out] at ho10 | (simp only [Int.reduceToNat] at ho10; rw [← Ny101.out] at ho10)); have n0_ := Aside0.mk (Kd.R_lower ho10 (below_size (by repeat (first | (with_reducible first | exact HB.out | apply below_alloc | apply pw_below_drewN | apply below_drew1) | exact HB.out)))); have n1_ := Aside0.mk (below_step (by repeat (first | (with_reducible first | exact HB.out | apply below_alloc | apply pw_below_drewN | apply below_drew1) | exact HB.out)) hb); clear HB; have HO103 := n0_; have HB := n1_; clear n0_ n1_; clear hb ho10; obtain ⟨Ao11, co11, eo11⟩ := Kd.R_slice HO103.out; subst eo11) | ((with_reducible refine gate_callee (f := 65) rfl ?_); refine goesL_ (some 8) rfl rfl Try.func65 (by kernel_rfl) rfl #[.slice Ao11 y101.length co11] rfl (by (try simp only [List.map_toArray, List.map_cons, List.map_nil]); first | done | rfl | (simp only [List.length_drop, List.length_take]; rfl)) ?_; (with_reducible refine (impl_trits.calls k _ _ y101 false _ ?side1 ?side2 A3.out).mono ?_); (case side1 => repeat (first | exact (Kd.R_reads' HO103.out).2.2 | (with_reducible refine Kd.C_alloc ?_ _) | (with_reducible refine Kd.C_drewN ?_ _) | (with_reducible refine Kd.C_drew ?_))); (case side2 => exact (Kd.R_reads' HO103.out).2.1); rintro e w' ⟨rfl, ⟨nd, rfl⟩⟩; refine ⟨_, rfl, ?_⟩))
    go_ret
    exact ⟨by first | rfl | (simp [errW_none, errW_some] <;> rfl) | (simp [*, errW_none, errW_some] <;> rfl), by repeat (first | (with_reducible first | exact HB.out | apply below_alloc | apply pw_below_drewN | apply below_drew1) | exact HB.out)⟩

/-! ### impl_MaxTrits: function 92 -/
def impl_MaxTrits.f (k : Nat) (a0 : Int) (a1 : Int) : Option (Int) := (impl_trits.f k (([a0, a1] : List Int))).bind fun t104 => (if t104 = true then (some (mx a0 a1)) else (some 0))
set_option maxHeartbeats 8000000 in
set_option maxRecDepth 100000 in
theorem impl_MaxTrits.calls (k : Nat) (a0 : Int) (a1 : Int) (r : Int) (w : World) (h : impl_MaxTrits.f k a0 a1 = some r) :
    Calls Try.prog 92 #[.int .i64 a0, .int .i64 a1] w fun e w' => e = .returned (.int .i64 r) ∧ Below w.heap.size w w' := by
  have HB := Aside0.mk (Below.refl w.heap.size w)
  have H : ((impl_trits.f k (([a0, a1] : List Int))).bind fun t104 => (if t104 = true then (some (mx a0 a1)) else (some 0))) = some r := h
  clear h
  obtain ⟨y101, hy101⟩ : ∃ y_ : List Int, y_ = (([a0, a1] : List Int)) := ⟨_, rfl⟩
  replace H : ((impl_trits.f k y101).bind fun t104 => (if t104 = true then (some (mx a0 a1)) else (some 0))) = some r := by first | (rw [hy101]; with_reducible exact H) | (have H2_ := (Option.bind_some _ _).symm.trans H; rw [hy101]; with_reducible exact H2_) | (have H2_ := (Option.bind_some _ _).symm.trans H; with_reducible exact H2_) | with_reducible exact H | (rw [hy101]; exact H) | exact H
  have Ny101 := Aside0.mk hy101
  clear hy101
  replace H := Option.bind_eq_some_iff.mp H
  obtain ⟨t104, A30, H⟩ := H
  replace H : (if t104 = true then (some (mx a0 a1)) else (some 0)) = some r := H
  have A3 := Aside0.mk A30
  clear A30
  by_cases c4 : t104 = true
  · subst c4
    have H1 : (some (mx a0 a1)) = some r := by rw [if_pos rfl] at H; exact H
    clear H
    have H := H1
    clear H1
    obtain ⟨ji5, hji5⟩ : ∃ j_ : Int, (mx a0 a1) = j_ := ⟨_, rfl⟩
    replace H : (some ji5) = some r := by first | (rw [hji5] at H; exact H) | (simp only [hji5] at H ⊢; exact H)
    (try rw [hji5] at A3)
    have hji5_ : (if a0 < a1 then a1 else a0) = ji5 := hji5
    obtain rfl := Option.some.inj H
    go_enter Try.func92, Try.ntmps92
    go_wp2_with (first | ((with_reducible refine gate_dst (N := 7) rfl ?_); refine Kd.R_lit (Kd.int .i64) _ 3 ?hg (N := 7) ?hd (xs := ([a0, a1] : List Int)) (inner := [.int .i64 a0, .int .i64 a1]) (ok := fun _ => True) (okp := fun _ => True) ?hr ?hp (fun _ hk => hk) trivial (Below.refl _ _) (Nat.le_refl _) (by simp) ?_; (case hd => rfl); (case hg => rfl); (case hr => first | (go_simp; done) | (go_simp; rfl)); (case hp => exact (Reps.one (show Kd.M (Kd.int .i64) _ _ _ a0 [.int .i64 a0] from rfl) (Reps.one (show Kd.M (Kd.int .i64) _ _ _ a1 [.int .i64 a1] from rfl) (Reps.none _ _)))); intro v102 w6 ho7 hb hg_ hnew_; clear hg_ hnew_; (first | rw [← Ny101.out] at ho7 | (simp only [Int.reduceToNat] at ho7; rw [← Ny101.out] at ho7)); have n0_ := Aside0.mk (Kd.R_lower ho7 (below_size (by repeat (first | (with_reducible first | exact HB.out | apply below_alloc | apply pw_below_drewN | apply below_drew1) | exact HB.out)))); have n1_ := Aside0.mk (below_step (by repeat (first | (with_reducible first | exact HB.out | apply below_alloc | apply pw_below_drewN | apply below_drew1) | exact HB.out)) hb); clear HB; have HO103 := n0_; have HB := n1_; clear n0_ n1_; clear hb ho7; obtain ⟨Ao8, co8, eo8⟩ := Kd.R_slice HO103.out; subst eo8) | ((with_reducible refine gate_callee (f := 65) rfl ?_); refine goesL_ (some 8) rfl rfl Try.func65 (by kernel_rfl) rfl #[.slice Ao8 y101.length co8] rfl (by (try simp only [List.map_toArray, List.map_cons, List.map_nil]); first | done | rfl | (simp only [List.length_drop, List.length_take]; rfl)) ?_; (with_reducible refine (impl_trits.calls k _ _ y101 true _ ?side1 ?side2 A3.out).mono ?_); (case side1 => repeat (first | exact (Kd.R_reads' HO103.out).2.2 | (with_reducible refine Kd.C_alloc ?_ _) | (with_reducible refine Kd.C_drewN ?_ _) | (with_reducible refine Kd.C_drew ?_))); (case side2 => exact (Kd.R_reads' HO103.out).2.1); rintro e w' ⟨rfl, ⟨nd, rfl⟩⟩; refine ⟨_, rfl, ?_⟩))
    go_ret
    exact ⟨by first | rfl | (simp [errW_none, errW_some] <;> rfl) | (simp only [← hji5]; first | rfl | (simp [errW_none, errW_some] <;> rfl)) | (simp [*, errW_none, errW_some] <;> rfl), by repeat (first | (with_reducible first | exact HB.out | apply below_alloc | apply pw_below_drewN | apply below_drew1) | exact HB.out)⟩
  · replace c4 := Bool.eq_false_iff.mpr c4
    subst c4
    have H1 : (some 0) = some r := by rw [if_neg (show ¬ (false = true) by decide)] at H; exact H
    clear H
    have H := H1
    clear H1
    obtain rfl := Option.some.inj H
    go_enter Try.func92, Try.ntmps92
    go_wp2_with (first | ((with_reducible refine gate_dst (N := 7) rfl ?_); refine Kd.R_lit (Kd.int .i64) _ 3 ?hg (N := 7) ?hd (xs := ([a0, a1] : List Int)) (inner := [.int .i64 a0, .int .i64 a1]) (ok := fun _ => True) (okp := fun _ => True) ?hr ?hp (fun _ hk => hk) trivial (Below.refl _ _) (Nat.le_refl _) (by simp) ?_; (case hd => rfl); (case hg => rfl); (case hr => first | (go_simp; done) | (go_simp; rfl)); (case hp => exact (Reps.one (show Kd.M (Kd.int .i64) _ _ _ a0 [.int .i64 a0] from rfl) (Reps.one (show Kd.M (Kd.int .i64) _ _ _ a1 [.int .i64 a1] from rfl) (Reps.none _ _)))); intro v102 w9 ho10 hb hg_ hnew_; clear hg_ hnew_; (first | rw [← Ny101.out] at ho10 | (simp only [Int.reduceToNat] at ho10; rw [← Ny101.out] at ho10)); have n0_ := Aside0.mk (Kd.R_lower ho10 (below_size (by repeat (first | (with_reducible first | exact HB.out | apply below_alloc | apply pw_below_drewN | apply below_drew1) | exact HB.out)))); have n1_ := Aside0.mk (below_step (by repeat (first | (with_reducible first | exact HB.out | apply below_alloc | apply pw_below_drewN | apply below_drew1) | exact HB.out)) hb); clear HB; have HO103 := n0_; have HB := n1_; clear n0_ n1_; clear hb ho10; obtain ⟨Ao11, co11, eo11⟩ := Kd.R_slice HO103.out; subst eo11) | ((with_reducible refine gate_callee (f := 65) rfl ?_); refine goesL_ (some 8) rfl rfl Try.func65 (by kernel_rfl) rfl #[.slice Ao11 y101.length co11] rfl (by (try simp only [List.map_toArray, List.map_cons, List.map_nil]); first | done | rfl | (simp only [List.length_drop, List.length_take]; rfl)) ?_; (with_reducible refine (impl_trits.calls k _ _ y101 false _ ?side1 ?side2 A3.out).mono ?_); (case side1 => repeat (first | exact (Kd.R_reads' HO103.out).2.2 | (with_reducible refine Kd.C_alloc ?_ _) | (with_reducible refine Kd.C_drewN ?_ _) | (with_reducible refine Kd.C_drew ?_))); (case side2 => exact (Kd.R_reads' HO103.out).2.1); rintro e w' ⟨rfl, ⟨nd, rfl⟩⟩; refine ⟨_, rfl, ?_⟩))
    go_ret
    exact ⟨by first | rfl | (simp [errW_none, errW_some] <;> rfl) | (simp [*, errW_none, errW_some] <;> rfl), by repeat (first | (with_reducible first | exact HB.out | apply below_alloc | apply pw_below_drewN | apply below_drew1) | exact HB.out)⟩

/-! ### impl_AgreeTrits: function 93 -/

/-! ### impl_SignOf: function 108 -/
def impl_SignOf.f (a0 : Int) : Option (Int) := if a0 < 0 then (some (-1)) else (if a0 > 0 then (some 1) else (some 0))
set_option maxHeartbeats 8000000 in
set_option maxRecDepth 100000 in
theorem impl_SignOf.calls (a0 : Int) (r : Int) (w : World) (h : impl_SignOf.f a0 = some r) :
    Calls Try.prog 108 #[.int .i64 a0] w fun e w' => e = .returned (.int .i64 r) ∧ Drawn0 w w' := by
  have H : (if a0 < 0 then (some (-1)) else (if a0 > 0 then (some 1) else (some 0))) = some r := h
  clear h
  by_cases c2 : a0 < 0
  · rw [if_pos c2] at H
    have c2b0 : decide (a0 < 0) = true := decide_eq_true c2
    clear c2
    obtain rfl := Option.some.inj H
    go_enter Try.func108, Try.ntmps108
    go_wp2
    go_ret
    exact ⟨by first | rfl | (simp; done) | (simp [*]; done), by repeat (first | exact Drawn0.refl _ | apply Drawn0.step)⟩
  · rw [if_neg c2] at H
    have c2b0 : decide (a0 < 0) = false := decide_eq_false c2
    clear c2
    by_cases c3 : a0 > 0
    · rw [if_pos c3] at H
      have c3b0 : decide (0 < a0) = true := decide_eq_true c3
      clear c3
      obtain rfl := Option.some.inj H
      go_enter Try.func108, Try.ntmps108
      go_wp2
      go_ret
      exact ⟨by first | rfl | (simp; done) | (simp [*]; done), by repeat (first | exact Drawn0.refl _ | apply Drawn0.step)⟩
    · rw [if_neg c3] at H
      have c3b0 : decide (0 < a0) = false := decide_eq_false c3
      clear c3
      obtain rfl := Option.some.inj H
      go_enter Try.func108, Try.ntmps108
      go_wp2
      go_ret
      exact ⟨by first | rfl | (simp; done) | (simp [*]; done), by repeat (first | exact Drawn0.refl _ | apply Drawn0.step)⟩

/-! ### impl_AnyTrits: function 94 -/
def impl_AnyTrits.f (k : Nat) (a0 : Int) (a1 : Int) : Option (Int) := (impl_trits.f k (([a0, a1] : List Int))).bind fun t104 => (if t104 = true then ((impl_SignOf.f (wrap64 (a0 + a1))).bind fun t105 => (some t105)) else (some 0))
set_option maxHeartbeats 8000000 in
set_option maxRecDepth 100000 in
theorem impl_AnyTrits.calls (k : Nat) (a0 : Int) (a1 : Int) (r : Int) (w : World) (h : impl_AnyTrits.f k a0 a1 = some r) :
    Calls Try.prog 94 #[.int .i64 a0, .int .i64 a1] w fun e w' => e = .returned (.int .i64 r) ∧ Below w.heap.size w w' := by
  have HB := Aside0.mk (Below.refl w.heap.size w)
  have H : ((impl_trits.f k (([a0, a1] : List Int))).bind fun t104 => (if t104 = true then ((impl_SignOf.f (wrap64 (a0 + a1))).bind fun t105 => (some t105)) else (some 0))) = some r := h
  clear h
  obtain ⟨y101, hy101⟩ : ∃ y_ : List Int, y_ = (([a0, a1] : List Int)) := ⟨_, rfl⟩
  replace H : ((impl_trits.f k y101).bind fun t104 => (if t104 = true then ((impl_SignOf.f (wrap64 (a0 + a1))).bind fun t105 => (some t105)) else (some 0))) = some r := by first | (rw [hy101]; with_reducible exact H) | (have H2_ := (Option.bind_some _ _).symm.trans H; rw [hy101]; with_reducible exact H2_) | (have H2_ := (Option.bind_some _ _).symm.trans H; with_reducible exact H2_) | with_reducible exact H | (rw [hy101]; exact H) | exact H
  have Ny101 := Aside0.mk hy101
  clear hy101
  replace H := Option.bind_eq_some_iff.mp H
  obtain ⟨t104, A30, H⟩ := H
  replace H : (if t104 = true then ((impl_SignOf.f (wrap64 (a0 + a1))).bind fun t105 => (some t105)) else (some 0)) = some r := H
  have A3 := Aside0.mk A30
  clear A30
  by_cases c4 : t104 = true
  · subst c4
    have H1 : ((impl_SignOf.f (wrap64 (a0 + a1))).bind fun t105 => (some t105)) = some r := by rw [if_pos rfl] at H; exact H
    clear H
    have H := H1
    clear H1
    replace H := Option.bind_eq_some_iff.mp H
    obtain ⟨t105, A50, H⟩ := H
    replace H : (some t105) = some r := H
    have A5 := Aside0.mk A50
    clear A50
    obtain rfl := Option.some.inj H
    go_enter Try.func94, Try.ntmps94
    go_wp2_with (first | ((with_reducible refine gate_dst (N := 7) rfl ?_); refine Kd.R_lit (Kd.int .i64) _ 3 ?hg (N := 7) ?hd (xs := ([a0, a1] : List Int)) (inner := [.int .i64 a0, .int .i64 a1]) (ok := fun _ => True) (okp := fun _ => True) ?hr ?hp (fun _ hk => hk) trivial (Below.refl _ _) (Nat.le_refl _) (by simp) ?_; (case hd => rfl); (case hg => rfl); (case hr => first | (go_simp; done) | (go_simp; rfl)); (case hp => exact (Reps.one (show Kd.M (Kd.int .i64) _ _ _ a0 [.int .i64 a0] from rfl) (Reps.one (show Kd.M (Kd.int .i64) _ _ _ a1 [.int .i64 a1] from rfl) (Reps.none _ _)))); intro v102 w6 ho7 hb hg_ hnew_; clear hg_ hnew_; (first | rw [← Ny101.out] at ho7 | (simp only [Int.reduceToNat] at ho7; rw [← Ny101.out] at ho7)); have n0_ := Aside0.mk (Kd.R_lower ho7 (below_size (by repeat (first | (with_reducible first | exact HB.out | apply below_alloc | apply pw_below_drewN | apply below_drew1) | exact HB.out)))); have n1_ := Aside0.mk (below_step (by repeat (first | (with_reducible first | exact HB.out | apply below_alloc | apply pw_below_drewN | apply below_drew1) | exact HB.out)) hb); clear HB; have HO103 := n0_; have HB := n1_; clear n0_ n1_; clear hb ho7; obtain ⟨Ao8, co8, eo8⟩ := Kd.R_slice HO103.out; subst eo8) | ((with_reducible refine gate_callee (f := 65) rfl ?_); refine goesL_ (some 8) rfl rfl Try.func65 (by kernel_rfl) rfl #[.slice Ao8 y101.length co8] rfl (by (try simp only [List.map_toArray, List.map_cons, List.map_nil]); first | done | rfl | (simp only [List.length_drop, List.length_take]; rfl)) ?_; (with_reducible refine (impl_trits.calls k _ _ y101 true _ ?side1 ?side2 A3.out).mono ?_); (case side1 => repeat (first | exact (Kd.R_reads' HO103.out).2.2 | (with_reducible refine Kd.C_alloc ?_ _) | (with_reducible refine Kd.C_drewN ?_ _) | (with_reducible refine Kd.C_drew ?_))); (case side2 => exact (Kd.R_reads' HO103.out).2.1); rintro e w' ⟨rfl, ⟨nd, rfl⟩⟩; refine ⟨_, rfl, ?_⟩) | ((with_reducible refine gate_callee (f := 108) rfl ?_); refine goesL_ (some 13) rfl rfl Try.func108 (by kernel_rfl) rfl #[.int .i64 (wrap64 (a0 + a1))] rfl (by (try simp only [List.map_toArray, List.map_cons, List.map_nil]); first | done | rfl | (simp only [List.length_drop, List.length_take]; rfl)) ?_; (with_reducible refine (impl_SignOf.calls (wrap64 (a0 + a1)) t105 _ A5.out).mono ?_); rintro e w' ⟨rfl, ⟨nd, rfl⟩⟩; refine ⟨_, rfl, ?_⟩))
    go_ret
    exact ⟨by first | rfl | (simp [errW_none, errW_some] <;> rfl) | (simp [*, errW_none, errW_some] <;> rfl), by repeat (first | (with_reducible first | exact HB.out | apply below_alloc | apply pw_below_drewN | apply below_drew1) | exact HB.out)⟩
  · replace c4 := Bool.eq_false_iff.mpr c4
    subst c4
    have H1 : (some 0) = some r := by rw [if_neg (show ¬ (false = true) by decide)] at H; exact H
    clear H
    have H := H1
    clear H1
    obtain rfl := Option.some.inj H
    go_enter Try.func94, Try.ntmps94
    go_wp2_with (first | ((with_reducible refine gate_dst (N := 7) rfl ?_); refine Kd.R_lit (Kd.int .i64) _ 3 ?hg (N := 7) ?hd (xs := ([a0, a1] : List Int)) (inner := [.int .i64 a0, .int .i64 a1]) (ok := fun _ => True) (okp := fun _ => True) ?hr ?hp (fun _ hk => hk) trivial (Below.refl _ _) (Nat.le_refl _) (by simp) ?_; (case hd => rfl); (case hg => rfl); (case hr => first | (go_simp; done) | (go_simp; rfl)); (case hp => exact (Reps.one (show Kd.M (Kd.int .i64) _ _ _ a0 [.int .i64 a0] from rfl) (Reps.one (show Kd.M (Kd.int .i64) _ _ _ a1 [.int .i64 a1] from rfl) (Reps.none _ _)))); intro v102 w9 ho10 hb hg_ hnew_; clear hg_ hnew_; (first | rw [← Ny101.out] at ho10 | (simp only [Int.reduceToNat] at ho10; rw [← Ny101.out] at ho10)); have n0_ := Aside0.mk (Kd.R_lower ho10 (below_size (by repeat (first | (with_reducible first | exact HB.out | apply below_alloc | apply pw_below_drewN | apply below_drew1) | exact HB.out)))); have n1_ := Aside0.mk (below_step (by repeat (first | (with_reducible first | exact HB.out | apply below_alloc | apply pw_below_drewN | apply below_drew1) | exact HB.out)) hb); clear HB; have HO103 := n0_; have HB := n1_; clear n0_ n1_; clear hb ho10; obtain ⟨Ao11, co11, eo11⟩ := Kd.R_slice HO103.out; subst eo11) | ((with_reducible refine gate_callee (f := 65) rfl ?_); refine goesL_ (some 8) rfl rfl Try.func65 (by kernel_rfl) rfl #[.slice Ao11 y101.length co11] rfl (by (try simp only [List.map_toArray, List.map_cons, List.map_nil]); first | done | rfl | (simp only [List.length_drop, List.length_take]; rfl)) ?_; (with_reducible refine (impl_trits.calls k _ _ y101 false _ ?side1 ?side2 A3.out).mono ?_); (case side1 => repeat (first | exact (Kd.R_reads' HO103.out).2.2 | (with_reducible refine Kd.C_alloc ?_ _) | (with_reducible refine Kd.C_drewN ?_ _) | (with_reducible refine Kd.C_drew ?_))); (case side2 => exact (Kd.R_reads' HO103.out).2.1); rintro e w' ⟨rfl, ⟨nd, rfl⟩⟩; refine ⟨_, rfl, ?_⟩))
    go_ret
    exact ⟨by first | rfl | (simp [errW_none, errW_some] <;> rfl) | (simp [*, errW_none, errW_some] <;> rfl), by repeat (first | (with_reducible first | exact HB.out | apply below_alloc | apply pw_below_drewN | apply below_drew1) | exact HB.out)⟩

/-! ### impl_TimesTrits: function 95 -/

end Go.Proofs.Ytaopbkbjfmfcdaa.P
