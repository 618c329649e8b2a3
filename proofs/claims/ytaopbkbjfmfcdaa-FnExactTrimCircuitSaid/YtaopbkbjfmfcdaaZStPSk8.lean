/- What functions of the program come to, each with the proof that it does, laid by a program of this session out of the translation; no condition is set on any claim. -/
import Derived.Test.YtaopbkbjfmfcdaaZStPSk0
import Derived.Test.YtaopbkbjfmfcdaaZStPSk3
namespace Go.Proofs.Ytaopbkbjfmfcdaa.P
open Go.RowKit Go.Proofs.YtaopbkbjfmfcdaaW.PrintWords Go.Proofs.YtaopbkbjfmfcdaaW.PrintLast Go.Proofs.YtaopbkbjfmfcdaaW.PrintMore
attribute [local go_sem] max2_int min2_int max_two min_two max_three min_three max_four min_four   -- for this text's walks alone
set_option linter.unusedVariables false
set_option linter.unusedSimpArgs false

/-! ### laws_heldIntS: function 35 -/
def laws_heldIntS.l0 : Nat → List Int → Int → Int → Option (Int)
 | 0, _, _, _ => none
 | k + 1, x0, x1, x5 => if x5 < (x0.length : Int) then (if 0 ≤ x5 then (if (rd x0 x5) = x1 then (laws_heldIntS.l0 k x0 (wrap64 (x1 + 1)) (wrap64 (x5 + 1))) else (some (-1))) else (none)) else (some x1)
def laws_heldIntS.f (k : Nat) (l0 : List Int) (a1 : Int) : Option (Int) := laws_heldIntS.l0 k l0 a1 0
set_option maxHeartbeats 8000000 in
set_option maxRecDepth 100000 in
theorem laws_heldIntS.calls (k : Nat) (A0 : Option Addr) (c0 : Nat) (l0 : List Int) (a1 : Int) (r : Int) (w : World) (hr0 : Kd.C (Kd.int .i64) w A0 l0.length l0) (hc0 : l0.length ≤ c0) (h : laws_heldIntS.f k l0 a1 = some r) :
  Calls Try.prog 35 #[.slice A0 l0.length c0, .int .i64 a1] w fun e w' => e = .returned (.int .i64 r) ∧ Drawn0 w w' := by
 have HR0 := am hr0; have HC0 := am hc0; clear hr0 hc0
 have H : (laws_heldIntS.l0 k l0 a1 0) = some r := h
 clear h
 have H' := am H
 clear H
 go_enter Try.func35, Try.ntmps35
 go_wp2
 go_loopg [1, 5] k (fun kq v1 v5 w' => ∃ (x1_1 : Int) (x5_1 : Int), v1 = .int .i64 x1_1 ∧ v5 = .int .i64 x5_1 ∧ Aside0 (laws_heldIntS.l0 kq l0 x1_1 x5_1 = some r) ∧ Aside0 (kq ≤ k) ∧ Drawn0 w w')
 case atStart => exact ⟨(a1), (0), (by first | rfl | (simp; done) | (simp [*]; done)), (by first | rfl | (simp; done) | (simp [*]; done)), H', ⟨Nat.le_refl _⟩, by repeat (first | exact Drawn0.refl _ | apply Drawn0.step)⟩
 case round =>
  clear H'
  try clear p2
  obtain ⟨x1_1, x5_1, rfl, rfl, HA, HK1, ⟨m1, rfl⟩⟩ := hrel
  cases gk with
  | zero => exact absurd HA.out (by simp [laws_heldIntS.l0])
  | succ k1 =>
   have H := HA.out; clear HA
   simp only [laws_heldIntS.l0] at H
   by_cases c3 : x5_1 < (l0.length : Int)
   ·rw [if_pos c3] at H
    have c3b0 : decide (x5_1 < (l0.length : Int)) = true := decide_eq_true c3
    clear c3
    by_cases c4 : 0 ≤ x5_1
    ·rw [if_pos c4] at H
     have c4b0 : decide (0 ≤ x5_1) = true := decide_eq_true c4
     clear c4
     by_cases c5 : (rd l0 x5_1) = x1_1
     ·rw [if_pos c5] at H
      have c5b0 : ((rd l0 x5_1) == x1_1) = true := beq_iff_eq.mpr c5
      have c5b1 : ((rd l0 x5_1) != x1_1) = false := bne_eq_false_iff_eq.mpr c5
      clear c5
      have H' := am H
      clear H
      have p101 : 0 ≤ (x5_1 : Int) := of_decide_eq_true (by first | with_reducible assumption | assumption)
      have q101 : x5_1 < (l0.length : Int) := of_decide_eq_true (by first | with_reducible assumption | assumption)
      obtain ⟨ad101, e101, hx101_0⟩ := Kd.at_int HR0.out x5_1 p101 q101
      cases e101
      replace p101 := eq_true p101
      replace q101 := eq_true q101
      go_wp2
      go_roundg k1
      case measure => have := HK1.out; omega
      case rel => exact ⟨(wrap64 (x1_1 + 1)), (wrap64 (x5_1 + 1)), (by first | rfl | (simp; done) | (simp [*]; done)), (by first | rfl | (simp; done) | (simp [*]; done)), H', ⟨by have := HK1.out; omega⟩, by repeat (first | exact Drawn0.refl _ | apply Drawn0.step)⟩
     ·rw [if_neg c5] at H
      have c5b0 : ((rd l0 x5_1) == x1_1) = false := beq_eq_false_iff_ne.mpr c5
      have c5b1 : ((rd l0 x5_1) != x1_1) = true := bne_iff_ne.mpr c5
      obtain rfl := Option.some.inj H
      have p101 : 0 ≤ (x5_1 : Int) := of_decide_eq_true (by first | with_reducible assumption | assumption)
      have q101 : x5_1 < (l0.length : Int) := of_decide_eq_true (by first | with_reducible assumption | assumption)
      obtain ⟨ad101, e101, hx101_0⟩ := Kd.at_int HR0.out x5_1 p101 q101
      cases e101
      replace p101 := eq_true p101
      replace q101 := eq_true q101
      go_wp2
      go_ret
      exact ⟨by first | rfl | (simp; done) | (simp [*]; done), by repeat (first | exact Drawn0.refl _ | apply Drawn0.step)⟩
    ·rw [if_neg c4] at H
     exact absurd H (by simp)
   ·rw [if_neg c3] at H
    have c3b0 : decide (x5_1 < (l0.length : Int)) = false := decide_eq_false c3
    clear c3
    obtain rfl := Option.some.inj H
    go_wp2
    go_ret
    exact ⟨by first | rfl | (simp; done) | (simp [*]; done), by repeat (first | exact Drawn0.refl _ | apply Drawn0.step)⟩

/-! ### laws_heldGateS: function 70 -/
def cellsG (x : S46) : List Int := [x.f0.f0, x.f0.f1, x.f0.f2, x.f0.f3, x.f0.f4, x.f0.f5, x.f0.f6, x.f0.f7, x.f0.f8, x.f1, x.f2]
theorem cellsG_inj {x y : S46} (h : cellsG x = cellsG y) : x = y := by
  obtain ⟨⟨a0, a1, a2, a3, a4, a5, a6, a7, a8⟩, a, b⟩ := x
  obtain ⟨⟨b0, b1, b2, b3, b4, b5, b6, b7, b8⟩, c, d⟩ := y
  simp only [cellsG, List.cons.injEq, and_true] at h
  simp only [h]
instance decG : DecidableEq S46 := fun x y => decidable_of_iff (cellsG x = cellsG y) ⟨cellsG_inj, fun h => h ▸ rfl⟩
theorem add_two_ (ad : Addr) (a b : Nat) : (ad.add a).add b = ad.add (a + b) := by
  unfold Addr.add
  by_cases ha : a = 0
  · subst ha; simp
  · by_cases hb : b = 0
    · subst hb; simp
    · simp [ha, hb, Nat.add_assoc]
/-- The cells of a row that is marked from a on. -/
theorem marks_cells {w : World} {A : Option Addr} {a : Int} {n : Nat} (h : Kd.C k46 w A n (marksG a n)) (hn : 0 < n) : ∃ ad, A = some ad ∧ ∀ i q : Nat, i < n → q < 11 → w.cell? (ad.add (i * 11 + q)) = some (.int .i64 (a + 11 * (i : Int) + (q : Int))) := by
  obtain ⟨ad, e, hc⟩ := h.2.2 hn
  refine ⟨ad, e, fun i q hi hq => ?_⟩
  have hx : (marksG a n)[i]? = some (markG (a + 11 * (i : Int))) := by simp [marksG, List.getElem?_range hi]
  obtain ⟨c, hcl, hk, hcell⟩ := hc i _ hx
  have hk' := k46_open hk
  subst hk'
  refine hcell q _ ?_
  have z : (List.range 11).map (fun (q : Nat) => Value.int .i64 (a + 11 * (i : Int) + (q : Int))) = [.int .i64 (markG (a + 11 * (i : Int))).f0.f0, .int .i64 (markG (a + 11 * (i : Int))).f0.f1, .int .i64 (markG (a + 11 * (i : Int))).f0.f2, .int .i64 (markG (a + 11 * (i : Int))).f0.f3, .int .i64 (markG (a + 11 * (i : Int))).f0.f4, .int .i64 (markG (a + 11 * (i : Int))).f0.f5, .int .i64 (markG (a + 11 * (i : Int))).f0.f6, .int .i64 (markG (a + 11 * (i : Int))).f0.f7, .int .i64 (markG (a + 11 * (i : Int))).f0.f8, .int .i64 (markG (a + 11 * (i : Int))).f1, .int .i64 (markG (a + 11 * (i : Int))).f2] := by
    simp only [show List.range 11 = [0, 1, 2, 3, 4, 5, 6, 7, 8, 9, 10] from rfl, List.map_cons, List.map_nil]
    simp [markG]
  rw [← z]
  simp [List.getElem?_range hq]
def laws_heldGateS.f (l0 : List S46) (a1 : Int) : Option Int := if 0 ≤ a1 ∧ a1 ≤ 1000000000000000 ∧ (l0.length : Int) ≤ 100000000000000 then (if l0 = marksG a1 l0.length then some (a1 + 11 * (l0.length : Int)) else none) else none
set_option maxHeartbeats 8000000 in
set_option maxRecDepth 100000 in
theorem laws_heldGateS.calls (A0 : Option Addr) (c0 : Nat) (l0 : List S46) (a1 : Int) (r : Int) (w : World) (hr0 : Kd.C k46 w A0 l0.length l0) (hc0 : l0.length ≤ c0) (h : laws_heldGateS.f l0 a1 = some r) :
    Calls Try.prog 70 #[.slice A0 l0.length c0, .int .i64 a1] w fun e w' => e = .returned (.int .i64 r) ∧ Drawn0 w w' := by
  unfold laws_heldGateS.f at h
  by_cases hc : 0 ≤ a1 ∧ a1 ≤ 1000000000000000 ∧ (l0.length : Int) ≤ 100000000000000
  · rw [if_pos hc] at h
    by_cases hm : l0 = marksG a1 l0.length
    · rw [if_pos hm] at h
      have HR := Aside0.mk (Option.some.inj h)
      obtain ⟨n, hn⟩ : ∃ n, n = l0.length := ⟨_, rfl⟩
      have hr1 : Kd.C k46 w A0 n (marksG a1 n) := by rw [hn, ← hm]; exact hr0
      have HL := Aside0.mk (show 0 ≤ a1 ∧ a1 ≤ 1000000000000000 ∧ (n : Int) ≤ 100000000000000 by rw [hn]; exact hc)
      have HN := Aside0.mk hn
      rw [← hn]
      clear h hc hm hr0 hc0 hn
      by_cases hz : 0 < n
      · obtain ⟨ad, rfl, hcell⟩ := marks_cells hr1 hz
        have HC := Aside0.mk hcell
        clear hz hr1 hcell
        go_enter Try.func70, Try.ntmps70
        go_wp2
        go_loopg [1, 5] (n + 1) (fun kq v1 v5 w' => ∃ (i : Nat) (x : Int), v1 = .int .i64 x ∧ v5 = .int .i64 (i : Int) ∧ Aside0 (x = a1 + 11 * (i : Int) ∧ i ≤ n ∧ kq = n + 1 - i) ∧ Drawn0 w w')
        case atStart => exact ⟨0, a1, rfl, rfl, ⟨by omega, by omega, by omega⟩, by repeat (first | exact Drawn0.refl _ | apply Drawn0.step)⟩
        case round =>
          obtain ⟨i, x, rfl, rfl, HA, ⟨m1, rfl⟩⟩ := hrel
          by_cases hlt : i < n
          · have d0 : decide (i < n) = true := decide_eq_true hlt
            have d1 : decide ((i : Int) < (n : Int)) = true := decide_eq_true (by omega)
            have d2 : decide (0 ≤ (i : Int)) = true := decide_eq_true (by omega)
            have HLT := Aside0.mk hlt
            go_wp2
            go_loopg [1, 6] 10 (fun kq v1 v6 w' => ∃ (j : Nat) (y : Int), v1 = .int .i64 y ∧ v6 = .int .i64 (j : Int) ∧ Aside0 (y = x + (j : Int) ∧ j ≤ 9 ∧ kq = 10 - j) ∧ Drawn0 w w')
            case atStart => exact ⟨0, x, rfl, rfl, ⟨by omega, by omega, by omega⟩, by repeat (first | exact Drawn0.refl _ | apply Drawn0.step)⟩
            case round =>
              obtain ⟨j, y, rfl, rfl, HA2, ⟨m2, rfl⟩⟩ := hrel
              by_cases hlt2 : j < 9
              · have e1 : decide ((j : Int) < 9) = true := decide_eq_true (by omega)
                have e2 : decide (0 ≤ (j : Int)) = true := decide_eq_true (by omega)
                have e4 : (j : Int) < 9 := by omega
                have HL2 := Aside0.mk hlt2
                have hu : w.cell? ((ad.add (i * 11)).add j) = some (.int .i64 y) := by
                  rw [add_two_]
                  have e := HC.out i j HLT.out (by omega)
                  rw [e]
                  have := HA2.out
                  have := HA.out
                  congr 2
                  omega
                have n0 : (y != y) = false := by simp
                clear hlt2
                go_wp2
                repeat (go_quiet (fail); try go_wp2)
                have hw : wrap64 (y + 1) = y + 1 := by have := HA2.out; have := HA.out; have := HL.out; unfold wrap64; omega
                have hw2 : wrap64 ((j : Int) + 1) = ((j + 1 : Nat) : Int) := by have := HL2.out; unfold wrap64; omega
                go_roundg (gk - 1)
                case measure => have := HA2.out; have := HL2.out; omega
                case rel => exact ⟨j + 1, y + 1, by first | rfl | rw [hw], by first | rfl | (congr 1; omega) | rw [hw2], ⟨by have := HA2.out; omega, by have := HL2.out; omega, by have := HA2.out; omega⟩, by repeat (first | exact Drawn0.refl _ | apply Drawn0.step)⟩
              · have e1 : decide ((j : Int) < 9) = false := decide_eq_false (by omega)
                obtain rfl : j = 9 := by have := HA2.out; omega
                clear hlt2
                have hu1 : w.cell? ⟨(ad.add (i * 11)).block, (ad.add (i * 11)).off + 9, none⟩ = some (.int .i64 y) := by
                  rw [← add_field _ _ 9 (by omega)]
                  have e := HC.out i 9 HLT.out (by omega)
                  rw [e]
                  have := HA2.out
                  have := HA.out
                  congr 2
                  omega
                have hw : wrap64 (y + 1) = y + 1 := by have := HA2.out; have := HA.out; have := HL.out; unfold wrap64; omega
                have hu2 : w.cell? ⟨(ad.add (i * 11)).block, (ad.add (i * 11)).off + 10, none⟩ = some (.int .i64 (wrap64 (y + 1))) := by
                  rw [← add_field _ _ 10 (by omega), hw]
                  have e := HC.out i 10 HLT.out (by omega)
                  rw [e]
                  have := HA2.out
                  have := HA.out
                  congr 2
                  omega
                have HW := Aside0.mk hw
                clear hw
                have n0 : (y != y) = false := by simp
                have n1 : (wrap64 (y + 1) != wrap64 (y + 1)) = false := by simp
                go_wp2
                repeat (go_quiet (fail); try go_wp2)
                have hw1 : wrap64 (y + 1 + 1) = y + 2 := by have := HA2.out; have := HA.out; have := HL.out; unfold wrap64; omega
                have hw2 : wrap64 ((i : Int) + 1) = ((i + 1 : Nat) : Int) := by have := HLT.out; have := HL.out; unfold wrap64; omega
                go_roundg (n - i)
                case measure => have := HA.out; have := HLT.out; omega
                case rel => exact ⟨i + 1, y + 2, by first | rfl | rw [HW.out, hw1], by first | rfl | rw [hw2] | (congr 1; omega), ⟨by have := HA2.out; have := HA.out; omega, by have := HLT.out; omega, by have := HA.out; omega⟩, by repeat (first | exact Drawn0.refl _ | apply Drawn0.step)⟩
          · have d1 : decide ((i : Int) < (n : Int)) = false := decide_eq_false (by omega)
            have d0 : decide (i < n) = false := decide_eq_false hlt
            obtain rfl : i = n := by have := HA.out; omega
            clear hlt
            go_wp2
            go_ret
            refine ⟨?_, by repeat (first | exact Drawn0.refl _ | apply Drawn0.step)⟩
            have e := HR.out
            have e2 := HA.out.1
            have e3 := HN.out
            exact congrArg (fun b_ => Ending.returned (Value.int .i64 b_)) (by omega)
      · obtain rfl : n = 0 := by omega
        clear hr1
        go_enter Try.func70, Try.ntmps70
        go_wp2
        go_loopg [1, 5] 1 (fun kq v1 v5 w' => v1 = .int .i64 a1 ∧ v5 = .int .i64 0 ∧ Aside0 (kq = 1) ∧ w' = w)
        case atStart => exact ⟨rfl, rfl, ⟨rfl⟩, rfl⟩
        case round =>
          obtain ⟨rfl, rfl, HQ, rfl⟩ := hrel
          go_wp2
          go_ret
          refine ⟨?_, by repeat (first | exact Drawn0.refl _ | apply Drawn0.step)⟩
          have e := HR.out
          have e3 := HN.out
          exact congrArg (fun b_ => Ending.returned (Value.int .i64 b_)) (by omega)
    · rw [if_neg hm] at h
      cases h
  · rw [if_neg hc] at h
    cases h

/-! ### laws_heldCircuit: function 39 -/
def laws_heldCircuit.f (k : Nat) (a0_0 : Int) (l0_1 : List (S46)) (l0_2 : List Int) (a1 : Int) : Option (Int) := (laws_heldGateS.f l0_1 a1).bind fun t102 => (if t102 < 0 then (some (-1)) else ((laws_heldIntS.f k l0_2 t102).bind fun t103 => (if t103 < 0 then (some (-1)) else (some t103))))
set_option maxHeartbeats 8000000 in
set_option maxRecDepth 100000 in
theorem laws_heldCircuit.calls (k : Nat) (a0_0 : Int) (A0_1 : Option Addr) (c0_1 : Nat) (l0_1 : List (S46)) (A0_2 : Option Addr) (c0_2 : Nat) (l0_2 : List Int) (a1 : Int) (r : Int) (w : World) (hr0_1 : Kd.C k46 w A0_1 l0_1.length l0_1) (hc0_1 : l0_1.length ≤ c0_1) (hr0_2 : Kd.C (Kd.int .i64) w A0_2 l0_2.length l0_2) (hc0_2 : l0_2.length ≤ c0_2) (h : laws_heldCircuit.f k a0_0 l0_1 l0_2 a1 = some r) :
  Calls Try.prog 39 #[.agg #[.int .i64 a0_0, .slice A0_1 l0_1.length c0_1, .slice A0_2 l0_2.length c0_2], .int .i64 a1] w fun e w' => e = .returned (.int .i64 r) ∧ Below w.heap.size w w' := by
 have hu35 := Try.underlying35; have HR0_1 := am hr0_1; have HC0_1 := am hc0_1; clear hr0_1 hc0_1; have HR0_2 := am hr0_2; have HC0_2 := am hc0_2; clear hr0_2 hc0_2; have HB := am (Below.refl w.heap.size w)
 have H : ((laws_heldGateS.f l0_1 a1).bind fun t102 => (if t102 < 0 then (some (-1)) else ((laws_heldIntS.f k l0_2 t102).bind fun t103 => (if t103 < 0 then (some (-1)) else (some t103))))) = some r := h
 clear h
 replace H := Option.bind_eq_some_iff.mp H
 obtain ⟨t102, A30, H⟩ := H
 replace H : (if t102 < 0 then (some (-1)) else ((laws_heldIntS.f k l0_2 t102).bind fun t103 => (if t103 < 0 then (some (-1)) else (some t103)))) = some r := H
 have A3 := am A30; clear A30
 by_cases c4 : t102 < 0
 ·rw [if_pos c4] at H
  have c4b0 : decide (t102 < 0) = true := decide_eq_true c4
  clear c4
  obtain rfl := Option.some.inj H
  go_enter Try.func39, Try.ntmps39
  go_wp2_with (first | ((with_reducible refine gate_dst (N := 2) rfl ?_); refine box_event ?hg (N := 2) ?hd (cs := #[.int .i64 a0_0, .slice A0_1 l0_1.length c0_1, .slice A0_2 l0_2.length c0_2]) (t := 35) ?hr ?_; (case hd => rfl); (case hg => rfl); (case hr => first | (go_simp; done) | (go_simp; rfl)); intro gb101 hg w5 hbox hb; have n0_ := am (below_step (bB HB.out) hb); have n1_ := am (hbox); have n2_ := am ((by rw [hg]; exact (below_size (bB HB.out)) : w.heap.size ≤ gb101)); have n3_ := am ((by rw [hg]; exact (below_size (bB HB.out)) : w.heap.size ≤ gb101)); clear HB; have HB := n0_; have BK101 := n1_; have GW101 := n2_; have GE101 := n3_; clear n0_ n1_ n2_ n3_; clear hb hbox hg; have hcz6_0 : w5.cell? ⟨gb101, 0, none⟩ = some (.int .i64 a0_0) := (blk_cell BK101.out 0).trans rfl; have hcz6_1 : w5.cell? ⟨gb101, 1, none⟩ = some (.slice A0_1 l0_1.length c0_1) := (blk_cell BK101.out 1).trans rfl; have hcz6_2 : w5.cell? ⟨gb101, 2, none⟩ = some (.slice A0_2 l0_2.length c0_2) := (blk_cell BK101.out 2).trans rfl; have hfz6_0 := blk_frozen BK101.out 0; have hfz6_1 := blk_frozen BK101.out 1; have hfz6_2 := blk_frozen BK101.out 2) | ((with_reducible refine gate_callee (f := 70) rfl ?_); refine goesL_ (some 8) rfl rfl Try.func70 (by kernel_rfl) rfl #[.slice A0_1 l0_1.length c0_1, .int .i64 a1] rfl bE ?_; (with_reducible refine (laws_heldGateS.calls _ _ l0_1 a1 t102 _ ?side1 ?side2 A3.out).mono ?_); (case side1 => exact bD ((Kd.C_below HR0_1.out HB.out))); (case side2 => exact HC0_1.out); rintro e w' ⟨rfl, ⟨nd, rfl⟩⟩; refine ⟨_, rfl, ?_⟩))
  go_ret
  exact ⟨by first | rfl | (simp [errW_none, errW_some] <;> rfl) | (simp [*, errW_none, errW_some] <;> rfl), bB HB.out⟩
 ·rw [if_neg c4] at H
  have c4b0 : decide (t102 < 0) = false := decide_eq_false c4
  clear c4
  replace H := Option.bind_eq_some_iff.mp H
  obtain ⟨t103, A70, H⟩ := H
  replace H : (if t103 < 0 then (some (-1)) else (some t103)) = some r := H
  have A7 := am A70; clear A70
  by_cases c8 : t103 < 0
  ·rw [if_pos c8] at H
   have c8b0 : decide (t103 < 0) = true := decide_eq_true c8
   clear c8
   obtain rfl := Option.some.inj H
   go_enter Try.func39, Try.ntmps39
   go_wp2_with (first | ((with_reducible refine gate_dst (N := 2) rfl ?_); refine box_event ?hg (N := 2) ?hd (cs := #[.int .i64 a0_0, .slice A0_1 l0_1.length c0_1, .slice A0_2 l0_2.length c0_2]) (t := 35) ?hr ?_; (case hd => rfl); (case hg => rfl); (case hr => first | (go_simp; done) | (go_simp; rfl)); intro gb101 hg w9 hbox hb; have n0_ := am (below_step (bB HB.out) hb); have n1_ := am (hbox); have n2_ := am ((by rw [hg]; exact (below_size (bB HB.out)) : w.heap.size ≤ gb101)); have n3_ := am ((by rw [hg]; exact (below_size (bB HB.out)) : w.heap.size ≤ gb101)); clear HB; have HB := n0_; have BK101 := n1_; have GW101 := n2_; have GE101 := n3_; clear n0_ n1_ n2_ n3_; clear hb hbox hg; have hcz10_0 : w9.cell? ⟨gb101, 0, none⟩ = some (.int .i64 a0_0) := (blk_cell BK101.out 0).trans rfl; have hcz10_1 : w9.cell? ⟨gb101, 1, none⟩ = some (.slice A0_1 l0_1.length c0_1) := (blk_cell BK101.out 1).trans rfl; have hcz10_2 : w9.cell? ⟨gb101, 2, none⟩ = some (.slice A0_2 l0_2.length c0_2) := (blk_cell BK101.out 2).trans rfl; have hfz10_0 := blk_frozen BK101.out 0; have hfz10_1 := blk_frozen BK101.out 1; have hfz10_2 := blk_frozen BK101.out 2) | ((with_reducible refine gate_callee (f := 70) rfl ?_); refine goesL_ (some 8) rfl rfl Try.func70 (by kernel_rfl) rfl #[.slice A0_1 l0_1.length c0_1, .int .i64 a1] rfl bE ?_; (with_reducible refine (laws_heldGateS.calls _ _ l0_1 a1 t102 _ ?side1 ?side2 A3.out).mono ?_); (case side1 => exact bD ((Kd.C_below HR0_1.out HB.out))); (case side2 => exact HC0_1.out); rintro e w' ⟨rfl, ⟨nd, rfl⟩⟩; refine ⟨_, rfl, ?_⟩) | ((with_reducible refine gate_callee (f := 35) rfl ?_); refine goesL_ (some 14) rfl rfl Try.func35 (by kernel_rfl) rfl #[.slice A0_2 l0_2.length c0_2, .int .i64 t102] rfl bE ?_; (with_reducible refine (laws_heldIntS.calls k _ _ l0_2 t102 t103 _ ?side1 ?side2 A7.out).mono ?_); (case side1 => exact bD ((Kd.C_below HR0_2.out (bB HB.out)))); (case side2 => exact HC0_2.out); rintro e w' ⟨rfl, ⟨nd, rfl⟩⟩; refine ⟨_, rfl, ?_⟩))
   go_ret
   exact ⟨by first | rfl | (simp [errW_none, errW_some] <;> rfl) | (simp [*, errW_none, errW_some] <;> rfl), bB HB.out⟩
  ·rw [if_neg c8] at H
   have c8b0 : decide (t103 < 0) = false := decide_eq_false c8
   clear c8
   obtain rfl := Option.some.inj H
   go_enter Try.func39, Try.ntmps39
   go_wp2_with (first | ((with_reducible refine gate_dst (N := 2) rfl ?_); refine box_event ?hg (N := 2) ?hd (cs := #[.int .i64 a0_0, .slice A0_1 l0_1.length c0_1, .slice A0_2 l0_2.length c0_2]) (t := 35) ?hr ?_; (case hd => rfl); (case hg => rfl); (case hr => first | (go_simp; done) | (go_simp; rfl)); intro gb101 hg w11 hbox hb; have n0_ := am (below_step (bB HB.out) hb); have n1_ := am (hbox); have n2_ := am ((by rw [hg]; exact (below_size (bB HB.out)) : w.heap.size ≤ gb101)); have n3_ := am ((by rw [hg]; exact (below_size (bB HB.out)) : w.heap.size ≤ gb101)); clear HB; have HB := n0_; have BK101 := n1_; have GW101 := n2_; have GE101 := n3_; clear n0_ n1_ n2_ n3_; clear hb hbox hg; have hcz12_0 : w11.cell? ⟨gb101, 0, none⟩ = some (.int .i64 a0_0) := (blk_cell BK101.out 0).trans rfl; have hcz12_1 : w11.cell? ⟨gb101, 1, none⟩ = some (.slice A0_1 l0_1.length c0_1) := (blk_cell BK101.out 1).trans rfl; have hcz12_2 : w11.cell? ⟨gb101, 2, none⟩ = some (.slice A0_2 l0_2.length c0_2) := (blk_cell BK101.out 2).trans rfl; have hfz12_0 := blk_frozen BK101.out 0; have hfz12_1 := blk_frozen BK101.out 1; have hfz12_2 := blk_frozen BK101.out 2) | ((with_reducible refine gate_callee (f := 70) rfl ?_); refine goesL_ (some 8) rfl rfl Try.func70 (by kernel_rfl) rfl #[.slice A0_1 l0_1.length c0_1, .int .i64 a1] rfl bE ?_; (with_reducible refine (laws_heldGateS.calls _ _ l0_1 a1 t102 _ ?side1 ?side2 A3.out).mono ?_); (case side1 => exact bD ((Kd.C_below HR0_1.out HB.out))); (case side2 => exact HC0_1.out); rintro e w' ⟨rfl, ⟨nd, rfl⟩⟩; refine ⟨_, rfl, ?_⟩) | ((with_reducible refine gate_callee (f := 35) rfl ?_); refine goesL_ (some 14) rfl rfl Try.func35 (by kernel_rfl) rfl #[.slice A0_2 l0_2.length c0_2, .int .i64 t102] rfl bE ?_; (with_reducible refine (laws_heldIntS.calls k _ _ l0_2 t102 t103 _ ?side1 ?side2 A7.out).mono ?_); (case side1 => exact bD ((Kd.C_below HR0_2.out (bB HB.out)))); (case side2 => exact HC0_2.out); rintro e w' ⟨rfl, ⟨nd, rfl⟩⟩; refine ⟨_, rfl, ?_⟩))
   go_ret
   exact ⟨by first | rfl | (simp [errW_none, errW_some] <;> rfl) | (simp [*, errW_none, errW_some] <;> rfl), bB HB.out⟩

end Go.Proofs.Ytaopbkbjfmfcdaa.P
