/- What functions of the program come to, each with the proof that it does, laid by a program of this session out of the translation; no condition is set on any claim. -/
import Derived.Test.YtaopbkbjfmfcdaaZStPSk0
import Derived.Test.YtaopbkbjfmfcdaaZStPSk2
namespace Go.Proofs.Ytaopbkbjfmfcdaa.P
open Go.RowKit Go.Proofs.YtaopbkbjfmfcdaaW.PrintWords Go.Proofs.YtaopbkbjfmfcdaaW.PrintLast Go.Proofs.YtaopbkbjfmfcdaaW.PrintMore
attribute [local go_sem] max2_int min2_int max_two min_two max_three min_three max_four min_four   -- for this text's walks alone
set_option linter.unusedVariables false
set_option linter.unusedSimpArgs false

/-! ### laws_markGateS: function 68 -/
/-- A gate that is marked from a on, and a row of them. -/
def markG (a : Int) : S46 := ⟨⟨a, a + 1, a + 2, a + 3, a + 4, a + 5, a + 6, a + 7, a + 8⟩, a + 9, a + 10⟩
def marksG (a : Int) (n : Nat) : List S46 := (List.range n).map fun (i : Nat) => markG (a + 11 * (i : Int))
/-- A block whose first p cells are numbers from a on; the others are as they were. -/
def MK (w : World) (g : Nat) (cur : Array Value) (a : Int) (p : Nat) : Prop := ∃ c2 : Array Value, w.heap[g]? = some (.cells c2 46 (0, 0)) ∧ c2.size = cur.size ∧ ∀ q : Nat, c2[q]? = if q < p then (if q < cur.size then some (.int .i64 (a + (q : Int))) else none) else cur[q]?
theorem MK_start {w : World} {g : Nat} {cur : Array Value} (a : Int) (h : w.heap[g]? = some (.cells cur 46 (0, 0))) : MK w g cur a 0 := ⟨cur, h, rfl, fun q => by simp⟩
theorem MK_put {w : World} {g : Nat} {cur : Array Value} {a : Int} {p : Nat} (h : MK w g cur a p) (x : Int) (hx : x = a + (p : Int)) : MK (w.setCell ⟨g, p, none⟩ (.int .i64 x)) g cur a (p + 1) := by
  obtain ⟨c2, h1, h2, h3⟩ := h
  refine ⟨_, blk_set h1 p (.int .i64 x), by rw [Array.size_setIfInBounds]; exact h2, fun q => ?_⟩
  rw [Array.getElem?_setIfInBounds, h2]
  by_cases e : p = q
  · subst e
    rw [if_pos rfl, if_pos (Nat.lt_succ_self _), hx]
    
  · rw [if_neg e, h3 q]
    by_cases l : q < p
    · simp only [if_pos l, if_pos (show q < p + 1 by omega)]
    · simp only [if_neg l, if_neg (show ¬ q < p + 1 by omega)]
theorem MK_cell {w : World} {g : Nat} {cur : Array Value} {a : Int} {p : Nat} (h : MK w g cur a p) (q : Nat) (hq : q < cur.size) : ∃ u, w.cell? ⟨g, q, none⟩ = some u := by
  obtain ⟨c2, h1, h2, h3⟩ := h
  exact ⟨_, (blk_cell h1 q).trans (Array.getElem?_eq_getElem (by omega))⟩
theorem MK_frozen {w : World} {g : Nat} {cur : Array Value} {a : Int} {p : Nat} (h : MK w g cur a p) (q : Nat) : w.frozen? ⟨g, q, none⟩ = false := by
  obtain ⟨c2, h1, h2, h3⟩ := h
  exact blk_frozen h1 q
/-- What is marked reads as a row of marked gates, and is the call's own as it was. -/
theorem MK_R {w w' : World} {base g n cap : Nat} {cur : Array Value} {a : Int} {ok : Nat → Prop} (hg : base ≤ g) (hnc : n ≤ cap) (hcm : cap ≤ maxLen) (hcs : cur.size = cap * 11) (hok : ok g) (h : MK w' g cur a (n * 11)) :
    Kd.R k46 46 w' base ok (.slice (some ⟨g, 0, none⟩) n cap) (marksG a n) := by
  obtain ⟨c2, h1, h2, h3⟩ := h
  have hl : (marksG a n).length = n := by simp [marksG]
  have hc : n * 11 ≤ c2.size := by rw [h2, hcs]; exact Nat.mul_le_mul_right _ hnc
  refine ⟨fun k hk => ?_, (c2.toList.take (n * 11)), ⟨?_, .inr ⟨g, cap, c2, ?_, hg, h1, ?_, hcm, ?_, ?_⟩⟩, ?_, fun j x hx => ?_⟩
  · have : k = g := by simpa [Value.ownBlock, eq_comm] using hk
    rw [this]; exact hok
  · rw [List.length_take, Array.length_toList, hl]; show min (n * 11) c2.size = n * 11; omega
  · rw [hl]
  · rw [hl]; exact hnc
  · rw [h2]; exact hcs
  · rw [hl]; rfl
  · rw [List.length_take, Array.length_toList, hl]; show min (n * 11) c2.size = n * 11; omega
  · have hj : j < n := by have := (List.getElem?_eq_some_iff.1 hx).1; omega
    have hx' : x = markG (a + 11 * (j : Int)) := by
      simp only [marksG, List.getElem?_map, List.getElem?_range hj, Option.map_some, Option.some.injEq] at hx
      exact hx.symm
    have e : ((c2.toList.take (n * 11)).drop (j * 11)).take 11 = (List.range 11).map fun (q : Nat) => Value.int .i64 (a + 11 * (j : Int) + (q : Int)) := by
      apply List.ext_getElem?
      intro q
      rw [List.getElem?_take, List.getElem?_map]
      by_cases hq : q < 11
      · have hb : j * 11 + q < n * 11 := by omega
        rw [if_pos hq, List.getElem?_drop, List.getElem?_take, if_pos hb, List.getElem?_range hq, Array.getElem?_toList, h3, if_pos hb, if_pos (by omega)]
        simp only [Option.map_some]
        congr 2
        push_cast
        omega
      · rw [if_neg hq, List.getElem?_eq_none (by simp; omega)]
        rfl
    show k46.M w' base _ x (((c2.toList.take (n * 11)).drop (j * 11)).take 11)
    rw [e, hx']
    have z : (List.range 11).map (fun (q : Nat) => Value.int .i64 (a + 11 * (j : Int) + (q : Int))) = [.int .i64 (markG (a + 11 * (j : Int))).f0.f0, .int .i64 (markG (a + 11 * (j : Int))).f0.f1, .int .i64 (markG (a + 11 * (j : Int))).f0.f2, .int .i64 (markG (a + 11 * (j : Int))).f0.f3, .int .i64 (markG (a + 11 * (j : Int))).f0.f4, .int .i64 (markG (a + 11 * (j : Int))).f0.f5, .int .i64 (markG (a + 11 * (j : Int))).f0.f6, .int .i64 (markG (a + 11 * (j : Int))).f0.f7, .int .i64 (markG (a + 11 * (j : Int))).f0.f8, .int .i64 (markG (a + 11 * (j : Int))).f1, .int .i64 (markG (a + 11 * (j : Int))).f2] := by
      simp only [show List.range 11 = [0, 1, 2, 3, 4, 5, 6, 7, 8, 9, 10] from rfl, List.map_cons, List.map_nil]
      simp [markG]
    rw [z]
    exact k46_mkM _ _ _ _
def laws_markGateS.f (l0 : List S46) (a1 : Int) : Option (Int × List S46) := if 0 ≤ a1 ∧ a1 ≤ 1000000000000000 ∧ (l0.length : Int) ≤ 100000000000000 then some (a1 + 11 * (l0.length : Int), marksG a1 l0.length) else none
set_option maxHeartbeats 8000000 in
set_option maxRecDepth 100000 in
theorem laws_markGateS.calls (P0_ : Nat → Prop) (u9000_ : Value) (l0 : List S46) (a1 : Int) (r1 : Int) (r2 : List S46) (w0 w : World) (hB : Below w0.heap.size w0 w) (ho0 : Kd.R k46 46 w w0.heap.size P0_ u9000_ l0) (h : laws_markGateS.f l0 a1 = some (r1, r2)) :
    Calls Try.prog 68 #[u9000_, .int .i64 a1] w fun e w' => e = .returned (.int .i64 r1) ∧ Kd.R k46 46 w' w0.heap.size (fun k_ => (P0_ k_ ∨ w.heap.size ≤ k_)) u9000_ r2 ∧ Below w0.heap.size w0 w' ∧ Kept w w' (fun k_ => P0_ k_) := by
  unfold laws_markGateS.f at h
  by_cases hc : 0 ≤ a1 ∧ a1 ≤ 1000000000000000 ∧ (l0.length : Int) ≤ 100000000000000
  · rw [if_pos hc] at h
    have h2 := Option.some.inj h
    simp only [Prod.mk.injEq] at h2
    have HR := Aside0.mk h2
    have HC := Aside0.mk hc
    clear h h2 hc
    have HB := Aside0.mk hB
    have HK := Aside0.mk (Kept.refl w (fun k_ => P0_ k_))
    have HO := Aside0.mk ho0
    obtain ⟨hok, inner, ⟨hil, hor⟩, hre⟩ := ho0
    rcases hor with ⟨rfl, hn0⟩ | ⟨g, cap, cur, rfl, hg, hh, hnc, hcm, hcs, hcur⟩
    · have hl0 : l0 = [] := List.length_eq_zero_iff.1 hn0
      subst hl0
      clear hil hre hok hn0
      go_enter Try.func68, Try.ntmps68
      go_wp2
      go_loopg [1, 5] 1 (fun kq v1 v5 w' => v1 = .int .i64 a1 ∧ v5 = .int .i64 0 ∧ Aside0 (kq = 1) ∧ w' = w)
      case atStart => exact ⟨rfl, rfl, ⟨rfl⟩, rfl⟩
      case round =>
        obtain ⟨rfl, rfl, HQ, rfl⟩ := hrel
        go_wp2
        go_ret
        refine ⟨?_, ?_, HB.out, HK.out⟩
        · rw [← HR.out.1]; simp
        · rw [← HR.out.2]; exact Kd.R_nil _ _ _ _ _
    · obtain ⟨n, hn⟩ : ∃ n, n = l0.length := ⟨_, rfl⟩
      have HN := Aside0.mk hn
      have HG := Aside0.mk (show w0.heap.size ≤ g ∧ n ≤ cap ∧ cap ≤ maxLen ∧ cur.size = cap * 11 ∧ P0_ g from ⟨hg, by rw [hn]; exact hnc, hcm, hcs, hok g rfl⟩)
      have HM := Aside0.mk (MK_start a1 hh)
      have HL := Aside0.mk (show 0 ≤ a1 ∧ a1 ≤ 1000000000000000 ∧ (n : Int) ≤ 100000000000000 by rw [hn]; exact HC.out)
      rw [← hn]
      clear hn hil hre hok hg hh hnc hcm hcs hcur HC HO
      go_enter Try.func68, Try.ntmps68
      go_wp2
      go_loopg [1, 5] (n + 1) (fun kq v1 v5 w' => ∃ (i : Nat) (x : Int), v1 = .int .i64 x ∧ v5 = .int .i64 (i : Int) ∧ Aside0 (x = a1 + 11 * (i : Int) ∧ i ≤ n ∧ kq = n + 1 - i) ∧ Aside0 (MK w' g cur a1 (i * 11)) ∧ Aside0 (Kept w w' (fun k_ => P0_ k_)) ∧ Aside0 (Below w0.heap.size w0 w'))
      case atStart => exact ⟨0, a1, rfl, rfl, ⟨by omega, by omega, by omega⟩, HM, HK, HB⟩
      case round =>
        clear HM HK HB
        obtain ⟨i, x, rfl, rfl, HA, HM, HK, HB⟩ := hrel
        by_cases hlt : i < n
        · have d0 : decide (i < n) = true := decide_eq_true hlt
          have d1 : decide ((i : Int) < (n : Int)) = true := decide_eq_true (by omega)
          have d2 : decide (0 ≤ (i : Int)) = true := decide_eq_true (by omega)
          have HLT := Aside0.mk hlt
          obtain ⟨wo, hwo⟩ : ∃ wo : World, wo = wr := ⟨_, rfl⟩
          clear hwo
          go_wp2
          go_loopg [1, 6] 10 (fun kq v1 v6 w' => ∃ (j : Nat) (y : Int), v1 = .int .i64 y ∧ v6 = .int .i64 (j : Int) ∧ Aside0 (y = x + (j : Int) ∧ j ≤ 9 ∧ kq = 10 - j) ∧ Aside0 (MK w' g cur a1 (i * 11 + j)) ∧ Aside0 (Kept w w' (fun k_ => P0_ k_)) ∧ Aside0 (Below w0.heap.size w0 w'))
          case atStart => exact ⟨0, x, rfl, rfl, ⟨by omega, by omega, by omega⟩, HM, HK, HB⟩
          case round =>
            clear HM HK HB
            obtain ⟨j, y, rfl, rfl, HA2, HM, HK, HB⟩ := hrel
            by_cases hlt2 : j < 9
            · have e1 : decide ((j : Int) < 9) = true := decide_eq_true (by omega)
              have e2 : decide (0 ≤ (j : Int)) = true := decide_eq_true (by omega)
              have e4 : (j : Int) < 9 := by omega
              have HL2 := Aside0.mk hlt2
              obtain ⟨u, hu⟩ := MK_cell HM.out (i * 11 + j) (by have := HG.out.2.2.2.1; have := HG.out.2.1; have := HLT.out; rw [HG.out.2.2.2.1]; omega)
              have hf := MK_frozen HM.out (i * 11 + j)
              clear hlt2
              go_wp2
              have hw : wrap64 (y + 1) = y + 1 := by have := HA2.out; have := HA.out; have := HL.out; unfold wrap64; omega
              have hw2 : wrap64 ((j : Int) + 1) = ((j + 1 : Nat) : Int) := by have := HL2.out; unfold wrap64; omega
              go_roundg (gk - 1)
              case measure => have := HA2.out; have := HL2.out; omega
              case rel => exact ⟨j + 1, y + 1, by first | rfl | rw [hw], by first | rfl | (congr 1; omega) | rw [hw2], ⟨by have := HA2.out; omega, by have := HL2.out; omega, by have := HA2.out; omega⟩, ⟨MK_put HM.out y (by have := HA2.out; have := HA.out; omega)⟩, ⟨Kept.setCell HK.out (.inl HG.out.2.2.2.2) _⟩, ⟨below_set HB.out HG.out.1⟩⟩
            · have e1 : decide ((j : Int) < 9) = false := decide_eq_false (by omega)
              obtain rfl : j = 9 := by have := HA2.out; omega
              clear hlt2
              obtain ⟨u, hu⟩ := MK_cell HM.out (i * 11 + 9) (by have := HG.out.2.1; have := HLT.out; rw [HG.out.2.2.2.1]; omega)
              have hf := MK_frozen HM.out (i * 11 + 9)
              obtain ⟨u2, hu2⟩ := MK_cell HM.out (i * 11 + 10) (by have := HG.out.2.1; have := HLT.out; rw [HG.out.2.2.2.1]; omega)
              have hf2 := MK_frozen HM.out (i * 11 + 10)
              go_wp2
              have hw : wrap64 (y + 1) = y + 1 := by have := HA2.out; have := HA.out; have := HL.out; unfold wrap64; omega
              have hw1 : wrap64 (y + 1 + 1) = y + 2 := by have := HA2.out; have := HA.out; have := HL.out; unfold wrap64; omega
              have hw2 : wrap64 ((i : Int) + 1) = ((i + 1 : Nat) : Int) := by have := HLT.out; have := HL.out; unfold wrap64; omega
              go_roundg (n - i)
              case measure => have := HA.out; have := HLT.out; omega
              case rel =>
                refine ⟨i + 1, y + 2, by first | rfl | rw [hw, hw1], by first | rfl | rw [hw2] | (congr 1; omega), ⟨by have := HA2.out; have := HA.out; omega, by have := HLT.out; omega, by have := HA.out; omega⟩, ⟨?_⟩, ⟨Kept.setCell (Kept.setCell HK.out (.inl HG.out.2.2.2.2) _) (.inl HG.out.2.2.2.2) _⟩, ⟨below_set (below_set HB.out HG.out.1) HG.out.1⟩⟩
                have t1 := MK_put HM.out y (by have := HA2.out; have := HA.out; omega)
                have t2 := MK_put t1 (wrap64 (y + 1)) (by rw [hw]; have := HA2.out; have := HA.out; omega)
                exact (show (i + 1) * 11 = i * 11 + 9 + 1 + 1 by omega) ▸ t2
        · have d1 : decide ((i : Int) < (n : Int)) = false := decide_eq_false (by omega)
          have d0 : decide (i < n) = false := decide_eq_false hlt
          obtain rfl : i = n := by have := HA.out; omega
          clear hlt
          go_wp2
          go_ret
          refine ⟨?_, ?_, HB.out, HK.out⟩
          · have e := HR.out.1
            have e2 := HA.out.1
            have e3 := HN.out
            exact congrArg (fun b_ => Ending.returned (Value.int .i64 b_)) (by omega)
          · rw [← HR.out.2, ← HN.out]
            exact MK_R (w := wr) HG.out.1 HG.out.2.1 HG.out.2.2.1 HG.out.2.2.2.1 (.inl HG.out.2.2.2.2) HM.out
  · rw [if_neg hc] at h
    cases h

/-! ### laws_markCircuit: function 33 -/
def laws_markCircuit.f (k : Nat) (a0_0 : Int) (l0_1 : List (S46)) (l0_2 : List Int) (a1 : Int) : Option (Int × (List (S46)) × List Int) := (laws_markGateS.f l0_1 a1).bind fun bt102 => ((laws_markIntS.f k l0_2 bt102.1).bind fun bt104 => (some (bt104.1, bt102.2, bt104.2)))
set_option maxHeartbeats 8000000 in
set_option maxRecDepth 100000 in
theorem laws_markCircuit.calls (k : Nat) (a0_0 : Int) (P0_1_ : Nat → Prop) (u9000_ : Value) (l0_1 : List (S46)) (P0_2_ : Nat → Prop) (u9001_ : Value) (l0_2 : List Int) (a1 : Int) (r1 : Int) (r2 : List (S46)) (r3 : List Int) (w0 w : World) (hB : Below w0.heap.size w0 w) (ho0_1 : Kd.R k46 46 w w0.heap.size P0_1_ u9000_ l0_1) (ho0_2 : Kd.R (Kd.int .i64) 3 w w0.heap.size P0_2_ u9001_ l0_2) (h : laws_markCircuit.f k a0_0 l0_1 l0_2 a1 = some (r1, r2, r3)) :
  Calls Try.prog 33 #[.agg #[.int .i64 a0_0, u9000_, u9001_], .int .i64 a1] w fun e w' => e = .returned (.int .i64 r1) ∧ Kd.R k46 46 w' w0.heap.size (fun k_ => ((P0_1_ k_ ∨ P0_2_ k_) ∨ w.heap.size ≤ k_)) u9000_ r2 ∧ Kd.R (Kd.int .i64) 3 w' w0.heap.size (fun k_ => ((P0_1_ k_ ∨ P0_2_ k_) ∨ w.heap.size ≤ k_)) u9001_ r3 ∧ Below w0.heap.size w0 w' ∧ Kept w w' (fun k_ => P0_1_ k_ ∨ P0_2_ k_) := by
 have hu35 := Try.underlying35; have HO0_1 := am (show Kd.R k46 46 w w0.heap.size (fun k_ => ((P0_1_ k_ ∨ P0_2_ k_) ∨ w.heap.size ≤ k_)) u9000_ l0_1 from Kd.R_mono ho0_1 (fun k_ hk => (.inl (.inl hk)))); have HO0_2 := am (show Kd.R (Kd.int .i64) 3 w w0.heap.size (fun k_ => ((P0_1_ k_ ∨ P0_2_ k_) ∨ w.heap.size ≤ k_)) u9001_ l0_2 from Kd.R_mono ho0_2 (fun k_ hk => (.inl (.inr hk)))); have HK := am (Kept.refl w (fun k_ => P0_1_ k_ ∨ P0_2_ k_)); have HW0 := am hB.size; have HB := am hB; clear hB
 have H : ((laws_markGateS.f l0_1 a1).bind fun bt102 => ((laws_markIntS.f k l0_2 bt102.1).bind fun bt104 => (some (bt104.1, bt102.2, bt104.2)))) = some (r1, r2, r3) := h
 clear h
 replace H := Option.bind_eq_some_iff.mp H
 obtain ⟨⟨t102, t103⟩, A30, H⟩ := H
 replace H : ((laws_markIntS.f k l0_2 t102).bind fun bt104 => (some (bt104.1, t103, bt104.2))) = some (r1, r2, r3) := H
 have A3 := am A30; clear A30
 replace H := Option.bind_eq_some_iff.mp H
 obtain ⟨⟨t104, t105⟩, A40, H⟩ := H
 replace H : (some (t104, t103, t105)) = some (r1, r2, r3) := H
 have A4 := am A40; clear A40
 simp only [Option.some.injEq, Prod.mk.injEq] at H
 obtain ⟨rfl, rfl, rfl⟩ := H
 obtain ⟨Ao5, co5, eo5⟩ := Kd.R_slice HO0_1.out
 subst eo5
 obtain ⟨Ao6, co6, eo6⟩ := Kd.R_slice HO0_2.out
 subst eo6
 go_enter Try.func33, Try.ntmps33
 go_wp2_with (first | ((with_reducible refine gate_dst (N := 2) rfl ?_); refine box_event ?hg (N := 2) ?hd (cs := #[.int .i64 a0_0, .slice Ao5 l0_1.length co5, .slice Ao6 l0_2.length co6]) (t := 35) ?hr ?_; (case hd => rfl); (case hg => rfl); (case hr => first | (go_simp; done) | (go_simp; rfl)); intro gb101 hg w7 hbox hb; have n0_ := am (Kd.R_below (bC HO0_1.out) hb); have n1_ := am (Kd.R_below (bC HO0_2.out) hb); have n2_ := am (Kept.below (S := (fun k_ => P0_1_ k_ ∨ P0_2_ k_)) (by repeat (first | (with_reducible first | exact HK.out | apply Kept.alloc | apply Kept.drewN | apply Kept.drew) | exact HK.out)) hb); have n3_ := am (below_step (bB HB.out) hb); have n4_ := am (hbox); have n5_ := am ((by rw [hg]; exact (by first | exact HK.out.1 | exact (show Kept w _ (fun k_ => P0_1_ k_ ∨ P0_2_ k_) from by repeat (first | (with_reducible first | exact HK.out | apply Kept.alloc | apply Kept.drewN | apply Kept.drew) | exact HK.out)).1) : w.heap.size ≤ gb101)); have n6_ := am ((by rw [hg]; exact (below_size (bB HB.out)) : w0.heap.size ≤ gb101)); clear HO0_1; clear HO0_2; clear HK; clear HB; have HO0_1 := n0_; have HO0_2 := n1_; have HK := n2_; have HB := n3_; have BK101 := n4_; have GW101 := n5_; have GE101 := n6_; clear n0_ n1_ n2_ n3_ n4_ n5_ n6_; clear hb hbox hg; have hcz8_0 : w7.cell? ⟨gb101, 0, none⟩ = some (.int .i64 a0_0) := (blk_cell BK101.out 0).trans rfl; have hcz8_1 : w7.cell? ⟨gb101, 1, none⟩ = some (.slice Ao5 l0_1.length co5) := (blk_cell BK101.out 1).trans rfl; have hcz8_2 : w7.cell? ⟨gb101, 2, none⟩ = some (.slice Ao6 l0_2.length co6) := (blk_cell BK101.out 2).trans rfl; have hfz8_0 := blk_frozen BK101.out 0; have hfz8_1 := blk_frozen BK101.out 1; have hfz8_2 := blk_frozen BK101.out 2) | ((with_reducible refine gate_callee (f := 68) rfl ?_); refine goesL_ (some 8) rfl rfl Try.func68 (by kernel_rfl) rfl #[.slice Ao5 l0_1.length co5, .int .i64 a1] rfl bE ?_; (with_reducible refine (laws_markGateS.calls (fun k_ => some k_ = (.slice Ao5 l0_1.length co5 : Value).ownBlock) (.slice Ao5 l0_1.length co5) l0_1 a1 t102 t103 w0 _ ?side1 ?side2 A3.out).mono ?_); (case side1 => repeat (first | (with_reducible first | exact HB.out | apply below_alloc | apply pw_below_drewN | apply below_drew1 | refine below_set ?_ GE101.out) | exact HB.out)); (case side2 => exact Kd.R_tight rfl HO0_1.out); rintro e w9 ⟨rfl, hy0, hb, hkp⟩; refine ⟨_, rfl, ?_⟩; have n0_ := am (Kd.R_reok rfl hy0 (fun k_ e_ => HO0_1.out.1 k_ e_)); have n1_ := am (Kd.R_mono (ok' := fun k_ => ((P0_1_ k_ ∨ P0_2_ k_) ∨ w.heap.size ≤ k_)) (Kd.R_keptB ((Kd.R_apart' HO0_2.out (Kd.R_typed HO0_1.out) (by decide))) hkp (fun k_ hk_ hs_ => (hk_.2) hs_)) (fun k_ hk_ => hk_.1.1)); have n2_ := am (blk_kept (bA BK101.out) hkp (fun hs_ => (fun e_ => (Kd.R_ne HO0_1.out BK101.out (by decide)) e_) hs_)); have n3_ := am (Kept.then_ (S := (fun k_ => P0_1_ k_ ∨ P0_2_ k_)) (by repeat (first | (with_reducible first | exact HK.out | apply Kept.alloc | apply Kept.drewN | apply Kept.drew | refine Kept.setCell ?_ (.inr GW101.out) _) | exact HK.out)) hkp (fun k_ hs_ => (fun e_ => (HO0_1.out.1 k_ e_.symm)) hs_)); have n4_ := am (hb); clear HO0_1; clear HO0_2; clear BK101; clear HK; clear HB; have HO0_1 := n0_; have HO0_2 := n1_; have BK101 := n2_; have HK := n3_; have HB := n4_; clear n0_ n1_ n2_ n3_ n4_; (try clear hb); (try clear hkp); (try clear hy0); have hcz10_0 : w9.cell? ⟨gb101, 0, none⟩ = some (.int .i64 a0_0) := (blk_cell BK101.out 0).trans rfl; have hcz10_1 : w9.cell? ⟨gb101, 1, none⟩ = some (.slice Ao5 l0_1.length co5) := (blk_cell BK101.out 1).trans rfl; have hcz10_2 : w9.cell? ⟨gb101, 2, none⟩ = some (.slice Ao6 l0_2.length co6) := (blk_cell BK101.out 2).trans rfl; have hfz10_0 := blk_frozen BK101.out 0; have hfz10_1 := blk_frozen BK101.out 1; have hfz10_2 := blk_frozen BK101.out 2) | ((with_reducible refine gate_callee (f := 34) rfl ?_); refine goesL_ (some 12) rfl rfl Try.func34 (by kernel_rfl) rfl #[.slice Ao6 l0_2.length co6, .int .i64 t102] rfl bE ?_; (with_reducible refine (laws_markIntS.calls k (fun k_ => some k_ = (.slice Ao6 l0_2.length co6 : Value).ownBlock) (.slice Ao6 l0_2.length co6) l0_2 t102 t104 t105 w0 _ ?side1 ?side2 A4.out).mono ?_); (case side1 => repeat (first | (with_reducible first | exact HB.out | apply below_alloc | apply pw_below_drewN | apply below_drew1 | refine below_set ?_ GE101.out) | exact HB.out)); (case side2 => exact Kd.R_tight rfl HO0_2.out); rintro e w11 ⟨rfl, hy0, hb, hkp⟩; refine ⟨_, rfl, ?_⟩; have n0_ := am (Kd.R_mono (ok' := fun k_ => ((P0_1_ k_ ∨ P0_2_ k_) ∨ w.heap.size ≤ k_)) (Kd.R_keptB ((Kd.R_apart' HO0_1.out (Kd.R_typed HO0_2.out) (by decide))) hkp (fun k_ hk_ hs_ => (hk_.2) hs_)) (fun k_ hk_ => hk_.1.1)); have n1_ := am (Kd.R_reok rfl hy0 (fun k_ e_ => HO0_2.out.1 k_ e_)); have n2_ := am (blk_kept (bA BK101.out) hkp (fun hs_ => (fun e_ => (Kd.R_ne HO0_2.out BK101.out (by decide)) e_) hs_)); have n3_ := am (Kept.then_ (S := (fun k_ => P0_1_ k_ ∨ P0_2_ k_)) (by repeat (first | (with_reducible first | exact HK.out | apply Kept.alloc | apply Kept.drewN | apply Kept.drew | refine Kept.setCell ?_ (.inr GW101.out) _) | exact HK.out)) hkp (fun k_ hs_ => (fun e_ => (HO0_2.out.1 k_ e_.symm)) hs_)); have n4_ := am (hb); clear HO0_1; clear HO0_2; clear BK101; clear HK; clear HB; have HO0_1 := n0_; have HO0_2 := n1_; have BK101 := n2_; have HK := n3_; have HB := n4_; clear n0_ n1_ n2_ n3_ n4_; (try clear hb); (try clear hkp); (try clear hy0)))
 go_ret
 exact ⟨by first | rfl | (simp [errW_none, errW_some] <;> rfl) | (simp [*, errW_none, errW_some] <;> rfl), by (with_reducible repeat (first | apply Kd.R_alloc | apply Kd.R_drewN | apply Kd.R_drew)); exact HO0_1.out, by (with_reducible repeat (first | apply Kd.R_alloc | apply Kd.R_drewN | apply Kd.R_drew)); exact HO0_2.out, by repeat (first | (with_reducible first | exact HB.out | apply below_alloc | apply pw_below_drewN | apply below_drew1 | refine below_set ?_ GE101.out) | exact HB.out), by repeat (first | (with_reducible first | exact HK.out | apply Kept.alloc | apply Kept.drewN | apply Kept.drew | refine Kept.setCell ?_ (.inr GW101.out) _) | exact HK.out)⟩

/-! ### spec_l1In: function 55 -/
def spec_l1In.f (a0 : Int) (a1 : Int) (a2 : Int) : Option (Bool) := if a0 ≥ a1 then (some (decide (a0 ≤ a2))) else (some false)
set_option maxHeartbeats 8000000 in
set_option maxRecDepth 100000 in
theorem spec_l1In.calls (a0 : Int) (a1 : Int) (a2 : Int) (r : Bool) (w : World) (h : spec_l1In.f a0 a1 a2 = some r) :
  Calls Try.prog 55 #[.int .i64 a0, .int .i64 a1, .int .i64 a2] w fun e w' => e = .returned (.bool r) ∧ Drawn0 w w' := by
 have H : (if a0 ≥ a1 then (some (decide (a0 ≤ a2))) else (some false)) = some r := h
 clear h
 by_cases c4 : a0 ≥ a1
 ·rw [if_pos c4] at H
  have c4b0 : decide (a1 ≤ a0) = true := decide_eq_true c4
  clear c4
  obtain rfl := Option.some.inj H
  go_enter Try.func55, Try.ntmps55
  go_wp2
  go_ret
  exact ⟨by first | rfl | (simp; done) | (simp [*]; done), by repeat (first | exact Drawn0.refl _ | apply Drawn0.step)⟩
 ·rw [if_neg c4] at H
  have c4b0 : decide (a1 ≤ a0) = false := decide_eq_false c4
  clear c4
  obtain rfl := Option.some.inj H
  go_enter Try.func55, Try.ntmps55
  go_wp2
  go_ret
  exact ⟨by first | rfl | (simp; done) | (simp [*]; done), by repeat (first | exact Drawn0.refl _ | apply Drawn0.step)⟩

/-! ### spec_IsTrit: function 49 -/
def spec_IsTrit.f (a0 : Int) : Option (Bool) := (spec_l1In.f a0 (-1) 1).bind fun t101 => (some t101)
set_option maxHeartbeats 8000000 in
set_option maxRecDepth 100000 in
theorem spec_IsTrit.calls (a0 : Int) (r : Bool) (w : World) (h : spec_IsTrit.f a0 = some r) :
  Calls Try.prog 49 #[.int .i64 a0] w fun e w' => e = .returned (.bool r) ∧ Drawn0 w w' := by
 have H : ((spec_l1In.f a0 (-1) 1).bind fun t101 => (some t101)) = some r := h
 clear h
 replace H := Option.bind_eq_some_iff.mp H
 obtain ⟨t101, A20, H⟩ := H
 replace H : (some t101) = some r := H
 have A2 := am A20; clear A20
 obtain rfl := Option.some.inj H
 go_enter Try.func49, Try.ntmps49
 go_wp2_with (first | ((with_reducible refine gate_callee (f := 55) rfl ?_); refine goesL_ (some 4) rfl rfl Try.func55 (by kernel_rfl) rfl #[.int .i64 a0, .int .i64 (-1), .int .i64 1] rfl bE ?_; (with_reducible refine (spec_l1In.calls a0 (-1) 1 t101 _ A2.out).mono ?_); rintro e w' ⟨rfl, ⟨nd, rfl⟩⟩; refine ⟨_, rfl, ?_⟩))
 go_ret
 exact ⟨by first | rfl | (simp; done) | (simp [*]; done), by repeat (first | exact Drawn0.refl _ | apply Drawn0.step)⟩

/-! ### spec_IsTable: function 56 -/
def trB (x : Int) : Bool := decide (-1 ≤ x) && decide (x ≤ 1)
def isT9 (l : List Int) : Bool := l.all trB
theorem spec_trB (x : Int) : spec_IsTrit.f x = some (trB x) := by
  unfold spec_IsTrit.f spec_l1In.f trB
  by_cases c : -1 ≤ x <;> simp [c]
def spec_IsTable.f (a0_0 a0_1 a0_2 a0_3 a0_4 a0_5 a0_6 a0_7 a0_8 : Int) : Option Bool := some (isT9 [a0_0, a0_1, a0_2, a0_3, a0_4, a0_5, a0_6, a0_7, a0_8])
set_option maxHeartbeats 8000000 in
set_option maxRecDepth 100000 in
theorem spec_IsTable.calls (a0_0 a0_1 a0_2 a0_3 a0_4 a0_5 a0_6 a0_7 a0_8 : Int) (r : Bool) (w : World) (h : spec_IsTable.f a0_0 a0_1 a0_2 a0_3 a0_4 a0_5 a0_6 a0_7 a0_8 = some r) :
    Calls Try.prog 56 #[.agg #[.int .i64 a0_0, .int .i64 a0_1, .int .i64 a0_2, .int .i64 a0_3, .int .i64 a0_4, .int .i64 a0_5, .int .i64 a0_6, .int .i64 a0_7, .int .i64 a0_8]] w fun e w' => e = .returned (.bool r) ∧ Below w.heap.size w w' := by
  have HR := Aside0.mk (Option.some.inj h)
  clear h
  have HB := Aside0.mk (Below.refl w.heap.size w)
  go_enter Try.func56, Try.ntmps56
  go_wp2
  go_loopg [3] 10 (fun kq v3 w' => ∃ i : Nat, v3 = .int .i64 (i : Int) ∧ Aside0 ((∀ j, j < i → trB (([a0_0, a0_1, a0_2, a0_3, a0_4, a0_5, a0_6, a0_7, a0_8] : List Int).getD j 0) = true) ∧ i ≤ 9 ∧ kq = 10 - i) ∧ Drawn0 (w.alloc (.cells #[.int .i64 a0_0, .int .i64 a0_1, .int .i64 a0_2, .int .i64 a0_3, .int .i64 a0_4, .int .i64 a0_5, .int .i64 a0_6, .int .i64 a0_7, .int .i64 a0_8] 23)) w')
  case atStart => exact ⟨0, rfl, ⟨fun j hj => absurd hj (Nat.not_lt_zero _), by omega, rfl⟩, by repeat (first | exact Drawn0.refl _ | apply Drawn0.step)⟩
  case round =>
    obtain ⟨i, rfl, HA, ⟨m1, rfl⟩⟩ := hrel
    have hi : i = 9 ∨ i = 0 ∨ i = 1 ∨ i = 2 ∨ i = 3 ∨ i = 4 ∨ i = 5 ∨ i = 6 ∨ i = 7 ∨ i = 8 := by have := HA.out.2; omega
    rcases hi with rfl | rfl | rfl | rfl | rfl | rfl | rfl | rfl | rfl | rfl
    · have e0 : trB a0_0 = true := HA.out.1 0 (by omega)
      have e1 : trB a0_1 = true := HA.out.1 1 (by omega)
      have e2 : trB a0_2 = true := HA.out.1 2 (by omega)
      have e3 : trB a0_3 = true := HA.out.1 3 (by omega)
      have e4 : trB a0_4 = true := HA.out.1 4 (by omega)
      have e5 : trB a0_5 = true := HA.out.1 5 (by omega)
      have e6 : trB a0_6 = true := HA.out.1 6 (by omega)
      have e7 : trB a0_7 = true := HA.out.1 7 (by omega)
      have e8 : trB a0_8 = true := HA.out.1 8 (by omega)
      have E0 : isT9 [a0_0, a0_1, a0_2, a0_3, a0_4, a0_5, a0_6, a0_7, a0_8] = true := by simp only [isT9, List.all_cons, List.all_nil, e0, e1, e2, e3, e4, e5, e6, e7, e8, Bool.and_self]
      have E := Aside0.mk E0
      clear E0 e0 e1 e2 e3 e4 e5 e6 e7 e8
      go_wp2
      go_ret
      exact ⟨congrArg (fun b_ => Ending.returned (Value.bool b_)) (HR.out.symm.trans E.out).symm, by repeat (first | (with_reducible first | exact HB.out | apply below_alloc | apply pw_below_drewN | apply below_drew1) | exact HB.out)⟩
    · cases c : trB a0_0 with
      | true =>
        have HF := Aside0.mk ((spec_trB a0_0).trans (congrArg some c))
        have HC := Aside0.mk c
        clear c
        go_wp2_with (go_at_call 49; (with_reducible refine (spec_IsTrit.calls a0_0 true _ HF.out).mono ?_); rintro e w' ⟨rfl, ⟨nd, rfl⟩⟩)
        go_roundg (gk - 1)
        case measure => have := HA.out.2; omega
        case rel => exact ⟨1, rfl, ⟨⟨fun j hj => (Nat.lt_or_ge j 0).elim (HA.out.1 j) (fun q => (show j = 0 by omega) ▸ HC.out), by omega, by have := HA.out.2; omega⟩⟩, by repeat (first | exact Drawn0.refl _ | apply Drawn0.step)⟩
      | false =>
        have HF := Aside0.mk ((spec_trB a0_0).trans (congrArg some c))
        have E0 : isT9 [a0_0, a0_1, a0_2, a0_3, a0_4, a0_5, a0_6, a0_7, a0_8] = false := by simp only [isT9, List.all_cons, List.all_nil, c, Bool.and_false, Bool.false_and]
        have E := Aside0.mk E0
        clear c E0
        go_wp2_with (go_at_call 49; (with_reducible refine (spec_IsTrit.calls a0_0 false _ HF.out).mono ?_); rintro e w' ⟨rfl, ⟨nd, rfl⟩⟩)
        go_ret
        exact ⟨congrArg (fun b_ => Ending.returned (Value.bool b_)) (HR.out.symm.trans E.out).symm, by repeat (first | (with_reducible first | exact HB.out | apply below_alloc | apply pw_below_drewN | apply below_drew1) | exact HB.out)⟩
    · cases c : trB a0_1 with
      | true =>
        have HF := Aside0.mk ((spec_trB a0_1).trans (congrArg some c))
        have HC := Aside0.mk c
        clear c
        go_wp2_with (go_at_call 49; (with_reducible refine (spec_IsTrit.calls a0_1 true _ HF.out).mono ?_); rintro e w' ⟨rfl, ⟨nd, rfl⟩⟩)
        go_roundg (gk - 1)
        case measure => have := HA.out.2; omega
        case rel => exact ⟨2, rfl, ⟨⟨fun j hj => (Nat.lt_or_ge j 1).elim (HA.out.1 j) (fun q => (show j = 1 by omega) ▸ HC.out), by omega, by have := HA.out.2; omega⟩⟩, by repeat (first | exact Drawn0.refl _ | apply Drawn0.step)⟩
      | false =>
        have HF := Aside0.mk ((spec_trB a0_1).trans (congrArg some c))
        have E0 : isT9 [a0_0, a0_1, a0_2, a0_3, a0_4, a0_5, a0_6, a0_7, a0_8] = false := by simp only [isT9, List.all_cons, List.all_nil, c, Bool.and_false, Bool.false_and]
        have E := Aside0.mk E0
        clear c E0
        go_wp2_with (go_at_call 49; (with_reducible refine (spec_IsTrit.calls a0_1 false _ HF.out).mono ?_); rintro e w' ⟨rfl, ⟨nd, rfl⟩⟩)
        go_ret
        exact ⟨congrArg (fun b_ => Ending.returned (Value.bool b_)) (HR.out.symm.trans E.out).symm, by repeat (first | (with_reducible first | exact HB.out | apply below_alloc | apply pw_below_drewN | apply below_drew1) | exact HB.out)⟩
    · cases c : trB a0_2 with
      | true =>
        have HF := Aside0.mk ((spec_trB a0_2).trans (congrArg some c))
        have HC := Aside0.mk c
        clear c
        go_wp2_with (go_at_call 49; (with_reducible refine (spec_IsTrit.calls a0_2 true _ HF.out).mono ?_); rintro e w' ⟨rfl, ⟨nd, rfl⟩⟩)
        go_roundg (gk - 1)
        case measure => have := HA.out.2; omega
        case rel => exact ⟨3, rfl, ⟨⟨fun j hj => (Nat.lt_or_ge j 2).elim (HA.out.1 j) (fun q => (show j = 2 by omega) ▸ HC.out), by omega, by have := HA.out.2; omega⟩⟩, by repeat (first | exact Drawn0.refl _ | apply Drawn0.step)⟩
      | false =>
        have HF := Aside0.mk ((spec_trB a0_2).trans (congrArg some c))
        have E0 : isT9 [a0_0, a0_1, a0_2, a0_3, a0_4, a0_5, a0_6, a0_7, a0_8] = false := by simp only [isT9, List.all_cons, List.all_nil, c, Bool.and_false, Bool.false_and]
        have E := Aside0.mk E0
        clear c E0
        go_wp2_with (go_at_call 49; (with_reducible refine (spec_IsTrit.calls a0_2 false _ HF.out).mono ?_); rintro e w' ⟨rfl, ⟨nd, rfl⟩⟩)
        go_ret
        exact ⟨congrArg (fun b_ => Ending.returned (Value.bool b_)) (HR.out.symm.trans E.out).symm, by repeat (first | (with_reducible first | exact HB.out | apply below_alloc | apply pw_below_drewN | apply below_drew1) | exact HB.out)⟩
    · cases c : trB a0_3 with
      | true =>
        have HF := Aside0.mk ((spec_trB a0_3).trans (congrArg some c))
        have HC := Aside0.mk c
        clear c
        go_wp2_with (go_at_call 49; (with_reducible refine (spec_IsTrit.calls a0_3 true _ HF.out).mono ?_); rintro e w' ⟨rfl, ⟨nd, rfl⟩⟩)
        go_roundg (gk - 1)
        case measure => have := HA.out.2; omega
        case rel => exact ⟨4, rfl, ⟨⟨fun j hj => (Nat.lt_or_ge j 3).elim (HA.out.1 j) (fun q => (show j = 3 by omega) ▸ HC.out), by omega, by have := HA.out.2; omega⟩⟩, by repeat (first | exact Drawn0.refl _ | apply Drawn0.step)⟩
      | false =>
        have HF := Aside0.mk ((spec_trB a0_3).trans (congrArg some c))
        have E0 : isT9 [a0_0, a0_1, a0_2, a0_3, a0_4, a0_5, a0_6, a0_7, a0_8] = false := by simp only [isT9, List.all_cons, List.all_nil, c, Bool.and_false, Bool.false_and]
        have E := Aside0.mk E0
        clear c E0
        go_wp2_with (go_at_call 49; (with_reducible refine (spec_IsTrit.calls a0_3 false _ HF.out).mono ?_); rintro e w' ⟨rfl, ⟨nd, rfl⟩⟩)
        go_ret
        exact ⟨congrArg (fun b_ => Ending.returned (Value.bool b_)) (HR.out.symm.trans E.out).symm, by repeat (first | (with_reducible first | exact HB.out | apply below_alloc | apply pw_below_drewN | apply below_drew1) | exact HB.out)⟩
    · cases c : trB a0_4 with
      | true =>
        have HF := Aside0.mk ((spec_trB a0_4).trans (congrArg some c))
        have HC := Aside0.mk c
        clear c
        go_wp2_with (go_at_call 49; (with_reducible refine (spec_IsTrit.calls a0_4 true _ HF.out).mono ?_); rintro e w' ⟨rfl, ⟨nd, rfl⟩⟩)
        go_roundg (gk - 1)
        case measure => have := HA.out.2; omega
        case rel => exact ⟨5, rfl, ⟨⟨fun j hj => (Nat.lt_or_ge j 4).elim (HA.out.1 j) (fun q => (show j = 4 by omega) ▸ HC.out), by omega, by have := HA.out.2; omega⟩⟩, by repeat (first | exact Drawn0.refl _ | apply Drawn0.step)⟩
      | false =>
        have HF := Aside0.mk ((spec_trB a0_4).trans (congrArg some c))
        have E0 : isT9 [a0_0, a0_1, a0_2, a0_3, a0_4, a0_5, a0_6, a0_7, a0_8] = false := by simp only [isT9, List.all_cons, List.all_nil, c, Bool.and_false, Bool.false_and]
        have E := Aside0.mk E0
        clear c E0
        go_wp2_with (go_at_call 49; (with_reducible refine (spec_IsTrit.calls a0_4 false _ HF.out).mono ?_); rintro e w' ⟨rfl, ⟨nd, rfl⟩⟩)
        go_ret
        exact ⟨congrArg (fun b_ => Ending.returned (Value.bool b_)) (HR.out.symm.trans E.out).symm, by repeat (first | (with_reducible first | exact HB.out | apply below_alloc | apply pw_below_drewN | apply below_drew1) | exact HB.out)⟩
    · cases c : trB a0_5 with
      | true =>
        have HF := Aside0.mk ((spec_trB a0_5).trans (congrArg some c))
        have HC := Aside0.mk c
        clear c
        go_wp2_with (go_at_call 49; (with_reducible refine (spec_IsTrit.calls a0_5 true _ HF.out).mono ?_); rintro e w' ⟨rfl, ⟨nd, rfl⟩⟩)
        go_roundg (gk - 1)
        case measure => have := HA.out.2; omega
        case rel => exact ⟨6, rfl, ⟨⟨fun j hj => (Nat.lt_or_ge j 5).elim (HA.out.1 j) (fun q => (show j = 5 by omega) ▸ HC.out), by omega, by have := HA.out.2; omega⟩⟩, by repeat (first | exact Drawn0.refl _ | apply Drawn0.step)⟩
      | false =>
        have HF := Aside0.mk ((spec_trB a0_5).trans (congrArg some c))
        have E0 : isT9 [a0_0, a0_1, a0_2, a0_3, a0_4, a0_5, a0_6, a0_7, a0_8] = false := by simp only [isT9, List.all_cons, List.all_nil, c, Bool.and_false, Bool.false_and]
        have E := Aside0.mk E0
        clear c E0
        go_wp2_with (go_at_call 49; (with_reducible refine (spec_IsTrit.calls a0_5 false _ HF.out).mono ?_); rintro e w' ⟨rfl, ⟨nd, rfl⟩⟩)
        go_ret
        exact ⟨congrArg (fun b_ => Ending.returned (Value.bool b_)) (HR.out.symm.trans E.out).symm, by repeat (first | (with_reducible first | exact HB.out | apply below_alloc | apply pw_below_drewN | apply below_drew1) | exact HB.out)⟩
    · cases c : trB a0_6 with
      | true =>
        have HF := Aside0.mk ((spec_trB a0_6).trans (congrArg some c))
        have HC := Aside0.mk c
        clear c
        go_wp2_with (go_at_call 49; (with_reducible refine (spec_IsTrit.calls a0_6 true _ HF.out).mono ?_); rintro e w' ⟨rfl, ⟨nd, rfl⟩⟩)
        go_roundg (gk - 1)
        case measure => have := HA.out.2; omega
        case rel => exact ⟨7, rfl, ⟨⟨fun j hj => (Nat.lt_or_ge j 6).elim (HA.out.1 j) (fun q => (show j = 6 by omega) ▸ HC.out), by omega, by have := HA.out.2; omega⟩⟩, by repeat (first | exact Drawn0.refl _ | apply Drawn0.step)⟩
      | false =>
        have HF := Aside0.mk ((spec_trB a0_6).trans (congrArg some c))
        have E0 : isT9 [a0_0, a0_1, a0_2, a0_3, a0_4, a0_5, a0_6, a0_7, a0_8] = false := by simp only [isT9, List.all_cons, List.all_nil, c, Bool.and_false, Bool.false_and]
        have E := Aside0.mk E0
        clear c E0
        go_wp2_with (go_at_call 49; (with_reducible refine (spec_IsTrit.calls a0_6 false _ HF.out).mono ?_); rintro e w' ⟨rfl, ⟨nd, rfl⟩⟩)
        go_ret
        exact ⟨congrArg (fun b_ => Ending.returned (Value.bool b_)) (HR.out.symm.trans E.out).symm, by repeat (first | (with_reducible first | exact HB.out | apply below_alloc | apply pw_below_drewN | apply below_drew1) | exact HB.out)⟩
    · cases c : trB a0_7 with
      | true =>
        have HF := Aside0.mk ((spec_trB a0_7).trans (congrArg some c))
        have HC := Aside0.mk c
        clear c
        go_wp2_with (go_at_call 49; (with_reducible refine (spec_IsTrit.calls a0_7 true _ HF.out).mono ?_); rintro e w' ⟨rfl, ⟨nd, rfl⟩⟩)
        go_roundg (gk - 1)
        case measure => have := HA.out.2; omega
        case rel => exact ⟨8, rfl, ⟨⟨fun j hj => (Nat.lt_or_ge j 7).elim (HA.out.1 j) (fun q => (show j = 7 by omega) ▸ HC.out), by omega, by have := HA.out.2; omega⟩⟩, by repeat (first | exact Drawn0.refl _ | apply Drawn0.step)⟩
      | false =>
        have HF := Aside0.mk ((spec_trB a0_7).trans (congrArg some c))
        have E0 : isT9 [a0_0, a0_1, a0_2, a0_3, a0_4, a0_5, a0_6, a0_7, a0_8] = false := by simp only [isT9, List.all_cons, List.all_nil, c, Bool.and_false, Bool.false_and]
        have E := Aside0.mk E0
        clear c E0
        go_wp2_with (go_at_call 49; (with_reducible refine (spec_IsTrit.calls a0_7 false _ HF.out).mono ?_); rintro e w' ⟨rfl, ⟨nd, rfl⟩⟩)
        go_ret
        exact ⟨congrArg (fun b_ => Ending.returned (Value.bool b_)) (HR.out.symm.trans E.out).symm, by repeat (first | (with_reducible first | exact HB.out | apply below_alloc | apply pw_below_drewN | apply below_drew1) | exact HB.out)⟩
    · cases c : trB a0_8 with
      | true =>
        have HF := Aside0.mk ((spec_trB a0_8).trans (congrArg some c))
        have HC := Aside0.mk c
        clear c
        go_wp2_with (go_at_call 49; (with_reducible refine (spec_IsTrit.calls a0_8 true _ HF.out).mono ?_); rintro e w' ⟨rfl, ⟨nd, rfl⟩⟩)
        go_roundg (gk - 1)
        case measure => have := HA.out.2; omega
        case rel => exact ⟨9, rfl, ⟨⟨fun j hj => (Nat.lt_or_ge j 8).elim (HA.out.1 j) (fun q => (show j = 8 by omega) ▸ HC.out), by omega, by have := HA.out.2; omega⟩⟩, by repeat (first | exact Drawn0.refl _ | apply Drawn0.step)⟩
      | false =>
        have HF := Aside0.mk ((spec_trB a0_8).trans (congrArg some c))
        have E0 : isT9 [a0_0, a0_1, a0_2, a0_3, a0_4, a0_5, a0_6, a0_7, a0_8] = false := by simp only [isT9, List.all_cons, List.all_nil, c, Bool.and_false, Bool.false_and]
        have E := Aside0.mk E0
        clear c E0
        go_wp2_with (go_at_call 49; (with_reducible refine (spec_IsTrit.calls a0_8 false _ HF.out).mono ?_); rintro e w' ⟨rfl, ⟨nd, rfl⟩⟩)
        go_ret
        exact ⟨congrArg (fun b_ => Ending.returned (Value.bool b_)) (HR.out.symm.trans E.out).symm, by repeat (first | (with_reducible first | exact HB.out | apply below_alloc | apply pw_below_drewN | apply below_drew1) | exact HB.out)⟩

end Go.Proofs.Ytaopbkbjfmfcdaa.P
