/- The law of the one-word float, by hand; no condition is set on any claim. -/
import Derived.Test.YtffhddibgfaopaaSin2
namespace Go.Proofs.Ytffhddibgfaopaa.P
open Go.RowKit Go.Proofs.YtffhddibgfaopaaW.PrintWords Go.Proofs.YtffhddibgfaopaaW.PrintLast Go.Proofs.YtffhddibgfaopaaW.PrintMore
set_option linter.unusedVariables false
set_option linter.unusedSimpArgs false
set_option maxHeartbeats 1600000 in
set_option maxRecDepth 100000 in
theorem lawSin (k : Nat) (A0 : Option Addr) (c0 : Nat) (l : List Int) (e z : Int) (r q s : Nat) (w : World) (hr : Kd.C (Kd.int .i64) w A0 l.length l) (hc : l.length ≤ c0) (hz : laws_szFloating.f l e 1048576 = some z) (hz0 : ¬ z < 0)
    (ht : laws_toFloating.f k l e = some (l, e)) (he : laws_eqFloating.f k l e l e = some true)
    (h13 : ∀ A c w, Kd.C (Kd.int .i64) w A l.length l → l.length ≤ c → Calls Try.prog 13 #[.agg #[.slice A l.length c, .int .i64 e]] w fun e' w' => e' = .returned (.float .f32 r) ∧ Below w.heap.size w w')
    (h14 : ∀ A c w, Kd.C (Kd.int .i64) w A l.length l → l.length ≤ c → Calls Try.prog 14 #[.agg #[.slice A l.length c, .int .i64 e]] w fun e' w' => e' = .returned (.float .f32 r) ∧ Below w.heap.size w w')
    (hq : floatToFloatBits .f32 r .f64 = some q) (ho : FloatKind.f64.format.order q q = some .eq) (hd : (FloatKind.f64.format.order q 0 == some .eq) = true → floatBits .quo .f64 4607182418800017408 q = some s) :
    Calls Try.prog 4 #[.agg #[.slice A0 l.length c0, .int .i64 e]] w fun e' w' => e' = .returned (.bool true) ∧ Below w.heap.size w w' := by
  have HB := Aside0.mk (Below.refl w.heap.size w)
  have HR := Aside0.mk hr
  have HC := Aside0.mk hc
  have HZ := Aside0.mk hz
  have HO := Aside0.mk ho
  have HDV := Aside0.mk hd
  have HEQ := Aside0.mk he
  have FA := Aside0.mk ht
  have d0 : decide (z < 0) = false := decide_eq_false hz0
  have hcv : ∀ w', (convert 33 36 (.float .f32 r)).run Try.prog w' = .ok (.float .f64 q) w' := fun w' => run_convert_float_float w' 33 36 .f32 .f64 r q (by kernel_rfl) (by kernel_rfl) hq
  clear hr hc hz hz0 ht he hq ho hd
  go_enter Try.func4, Try.ntmps4
  go_wp2_with (first | (go_at_call 6; (with_reducible refine (laws_szFloating.calls _ _ l e 1048576 z _ ?s1 HC.out HZ.out).mono ?_); (case s1 => exact bD HR.out); rintro e1 w1 ⟨rfl, hb⟩; have BK1 := Aside0.mk (show w1.heap[w.heap.size]? = some (.cells #[.slice A0 l.length c0, .int .i64 e] 24 (0, 0)) from blk_below (blk_new _ _) hb); have HB1 := Aside0.mk (show Below w.heap.size w w1 from below_step (below_alloc HB.out _) hb); have HR1 := Aside0.mk (Kd.C_below (show Kd.C (Kd.int .i64) _ A0 l.length l from Kd.C_alloc HR.out _) hb); have hs1a : w1.cell? ⟨w.heap.size, 0, none⟩ = some (.slice A0 l.length c0) := (blk_cell BK1.out 0).trans rfl; have hs1b : w1.cell? ⟨w.heap.size, 1, none⟩ = some (.int .i64 e) := (blk_cell BK1.out 1).trans rfl; clear hb HZ) | (go_at_call 8; (with_reducible refine (laws_toFloating.calls k _ _ l e l e _ ?s1 HC.out FA.out).mono ?_); (case s1 => exact bD HR1.out); rintro e2 w2 ⟨v2, rfl, ho2, hb⟩; have BK2 := Aside0.mk (show w2.heap[w.heap.size]? = some (.cells #[.slice A0 l.length c0, .int .i64 e] 24 (0, 0)) from blk_below (bA BK1.out) hb); have HB2 := Aside0.mk (show Below w.heap.size w w2 from below_step (bB HB1.out) hb); have HR2 := Aside0.mk (Kd.C_below (show Kd.C (Kd.int .i64) _ A0 l.length l from bD HR1.out) hb); have hs2a : w2.cell? ⟨w.heap.size, 0, none⟩ = some (.slice A0 l.length c0) := (blk_cell BK2.out 0).trans rfl; have hs2b : w2.cell? ⟨w.heap.size, 1, none⟩ = some (.int .i64 e) := (blk_cell BK2.out 1).trans rfl; obtain ⟨A2, c2, rfl, hl2, hC2⟩ := Kd.R_reads ho2; have HX := Aside0.mk hC2; have HXl := Aside0.mk hl2; have FB := FA; clear hb ho2 hl2 hC2 FA) | (go_at_call 13; (refine (h13 _ _ _ ?s1 HXl.out).mono ?_); (case s1 => exact bD HX.out); rintro e3 w3 ⟨rfl, hb⟩; have BK3 := Aside0.mk (show w3.heap[w.heap.size]? = some (.cells #[.slice A0 l.length c0, .int .i64 e] 24 (0, 0)) from blk_below (bA BK2.out) hb); have HB3 := Aside0.mk (show Below w.heap.size w w3 from below_step (bB HB2.out) hb); have HR3 := Aside0.mk (Kd.C_below (show Kd.C (Kd.int .i64) _ A0 l.length l from bD HR2.out) hb); have hs3a : w3.cell? ⟨w.heap.size, 0, none⟩ = some (.slice A0 l.length c0) := (blk_cell BK3.out 0).trans rfl; have hs3b : w3.cell? ⟨w.heap.size, 1, none⟩ = some (.int .i64 e) := (blk_cell BK3.out 1).trans rfl; clear hb) | (go_at_call 8; (with_reducible refine (laws_toFloating.calls k _ _ l e l e _ ?s1 HC.out FB.out).mono ?_); (case s1 => exact bD HR3.out); rintro e4 w4 ⟨v4, rfl, ho4, hb⟩; have BK4 := Aside0.mk (show w4.heap[w.heap.size]? = some (.cells #[.slice A0 l.length c0, .int .i64 e] 24 (0, 0)) from blk_below (bA BK3.out) hb); have HB4 := Aside0.mk (show Below w.heap.size w w4 from below_step (bB HB3.out) hb); have HR4 := Aside0.mk (Kd.C_below (show Kd.C (Kd.int .i64) _ A0 l.length l from bD HR3.out) hb); have hs4a : w4.cell? ⟨w.heap.size, 0, none⟩ = some (.slice A0 l.length c0) := (blk_cell BK4.out 0).trans rfl; have hs4b : w4.cell? ⟨w.heap.size, 1, none⟩ = some (.int .i64 e) := (blk_cell BK4.out 1).trans rfl; obtain ⟨A4, c4, rfl, hl4, hC4⟩ := Kd.R_reads ho4; have HY := Aside0.mk hC4; have HYl := Aside0.mk hl4; have FC := FB; clear hb ho4 hl4 hC4 FB) | (go_at_call 14; (refine (h14 _ _ _ ?s1 HYl.out).mono ?_); (case s1 => exact bD HY.out); rintro e5 w5 ⟨rfl, hb⟩; have BK5 := Aside0.mk (show w5.heap[w.heap.size]? = some (.cells #[.slice A0 l.length c0, .int .i64 e] 24 (0, 0)) from blk_below (bA BK4.out) hb); have HB5 := Aside0.mk (show Below w.heap.size w w5 from below_step (bB HB4.out) hb); have HR5 := Aside0.mk (Kd.C_below (show Kd.C (Kd.int .i64) _ A0 l.length l from bD HR4.out) hb); have hs5a : w5.cell? ⟨w.heap.size, 0, none⟩ = some (.slice A0 l.length c0) := (blk_cell BK5.out 0).trans rfl; have hs5b : w5.cell? ⟨w.heap.size, 1, none⟩ = some (.int .i64 e) := (blk_cell BK5.out 1).trans rfl; have BX := Aside0.mk (show w5.heap[w4.heap.size]? = some (.cells #[.slice A4 l.length c4, .int .i64 e] 26 (0, 0)) from blk_below (blk_new _ _) hb); have HY5 := Aside0.mk (Kd.C_below (show Kd.C (Kd.int .i64) _ A4 l.length l from bD HY.out) hb); have hx5a : w5.cell? ⟨w4.heap.size, 0, none⟩ = some (.slice A4 l.length c4) := (blk_cell BX.out 0).trans rfl; have hx5b : w5.cell? ⟨w4.heap.size, 1, none⟩ = some (.int .i64 e) := (blk_cell BX.out 1).trans rfl; clear hb) | (go_at_call 15; (with_reducible refine (sameF q s _ HO.out HDV.out).mono ?_); rintro e6 w6 ⟨rfl, ⟨nd6, rfl⟩⟩))
  refine start_ (n := 5) (S := fun w' => w'.cell? ⟨w4.heap.size, 0, none⟩ = some (.slice A4 l.length c4) ∧ w'.cell? ⟨w4.heap.size, 1, none⟩ = some (.int .i64 e) ∧ w'.cell? ⟨w.heap.size, 0, none⟩ = some (.slice A0 l.length c0) ∧ w'.cell? ⟨w.heap.size, 1, none⟩ = some (.int .i64 e)) (ds := []) #[false, false, false, false, false] (by kernel_rfl) rfl rfl ⟨(blk_cell BX.out 0).trans rfl, (blk_cell BX.out 1).trans rfl, (blk_cell BK5.out 0).trans rfl, (blk_cell BK5.out 1).trans rfl⟩ (fun hHeld => ?_)
  refine take_ (i := 0) (N := some 25) (v := ?_) (a' := ?_) #[true, false, false, false, false] rfl rfl (by kernel_rfl) (fun _ _ _ h => h) (Or.inl ⟨by rfl, ?_⟩) hHeld ?_ ?_
  rotate_left
  · rintro w' ⟨s0, s1, s2, s3⟩
    go_simp
    with_reducible rfl
  rotate_left
  · simp only [Act.put, List.setIfInBounds_toArray, List.set_cons_zero, List.set_cons_succ, i64_w, i32_w]
    rfl
  refine take_ (i := 1) (N := some 26) (v := ?_) (a' := ?_) #[true, true, false, false, false] rfl rfl (by kernel_rfl) (fun _ _ _ h => h) (Or.inl ⟨by rfl, ?_⟩) hHeld ?_ ?_
  rotate_left
  · rintro w' ⟨s0, s1, s2, s3⟩
    go_simp
    with_reducible rfl
  rotate_left
  · simp only [Act.put, List.setIfInBounds_toArray, List.set_cons_zero, List.set_cons_succ, i64_w, i32_w]
    rfl
  refine one_ (i := 2) (N := some 27) #[true, true, true, false, false] rfl rfl (by kernel_rfl) (by decide) (fun K hK => ?_)
  refine goes_ Try.func8 (by kernel_rfl) rfl #[.agg #[.slice A0 l.length c0, .int .i64 e]] (by rfl) rfl rfl (by (try simp only [List.map_toArray, List.map_cons, List.map_nil]); first | done | rfl) ?_
  with_reducible refine (laws_toFloating.calls k _ _ l e l e _ ?side1 HC.out FC.out).mono ?_
  (case side1 => exact bD HR5.out)
  rintro e7 w7 ⟨v7, rfl, ho7, hb⟩
  refine ⟨_, rfl, ?_⟩
  have BK7 := Aside0.mk (show w7.heap[w.heap.size]? = some (.cells #[.slice A0 l.length c0, .int .i64 e] 24 (0, 0)) from blk_below (bA BK5.out) hb); have HB7 := Aside0.mk (show Below w.heap.size w w7 from below_step (bB HB5.out) hb); have HR7 := Aside0.mk (Kd.C_below (show Kd.C (Kd.int .i64) _ A0 l.length l from bD HR5.out) hb); have hs7a : w7.cell? ⟨w.heap.size, 0, none⟩ = some (.slice A0 l.length c0) := (blk_cell BK7.out 0).trans rfl; have hs7b : w7.cell? ⟨w.heap.size, 1, none⟩ = some (.int .i64 e) := (blk_cell BK7.out 1).trans rfl
  have HY7 := Aside0.mk (Kd.C_below (show Kd.C (Kd.int .i64) _ A4 l.length l from bD HY5.out) hb)
  have BX7 := Aside0.mk (show w7.heap[w4.heap.size]? = some (.cells #[.slice A4 l.length c4, .int .i64 e] 26 (0, 0)) from blk_below (bA BX.out) hb)
  obtain ⟨A7, c7, rfl, hl7, hC7⟩ := Kd.R_reads ho7
  have HW := Aside0.mk hC7
  have HWl := Aside0.mk hl7
  clear hb ho7 hl7 hC7
  refine hK.out _ _ ⟨(blk_cell BX7.out 0).trans rfl, (blk_cell BX7.out 1).trans rfl, (blk_cell BK7.out 0).trans rfl, (blk_cell BK7.out 1).trans rfl⟩ (fun hHeld => ?_)
  clear hK K
  refine norm_ (a' := ?_) ?_ ?_
  rotate_left
  · show Act.put _ (some 27) _ = _
    simp only [Act.put, List.setIfInBounds_toArray, List.set_cons_zero, List.set_cons_succ, i64_w, i32_w]
    rfl
  refine one_ (i := 3) (N := some 28) #[true, true, true, true, false] rfl rfl (by kernel_rfl) (by decide) (fun K hK => ?_)
  refine goes_ Try.func10 (by kernel_rfl) rfl #[.agg #[.slice A4 l.length c4, .int .i64 e], .agg #[.slice A7 l.length c7, .int .i64 e]] (by rfl) rfl rfl (by (try simp only [List.map_toArray, List.map_cons, List.map_nil]); first | done | rfl) ?_
  with_reducible refine (laws_eqFloating.calls k _ _ l e _ _ l e true _ ?side1 HYl.out ?side3 HWl.out HEQ.out).mono ?_
  (case side1 => exact bD HY7.out)
  (case side3 => exact bD HW.out)
  rintro e8 w8 ⟨rfl, hb⟩
  refine ⟨_, rfl, ?_⟩
  have HB8 := Aside0.mk (show Below w.heap.size w w8 from below_step (bB HB7.out) hb)
  have BK8 := Aside0.mk (show w8.heap[w.heap.size]? = some (.cells #[.slice A0 l.length c0, .int .i64 e] 24 (0, 0)) from blk_below (bA BK7.out) hb)
  have BX8 := Aside0.mk (show w8.heap[w4.heap.size]? = some (.cells #[.slice A4 l.length c4, .int .i64 e] 26 (0, 0)) from blk_below (bA BX7.out) hb)
  clear hb
  refine hK.out _ _ ⟨(blk_cell BX8.out 0).trans rfl, (blk_cell BX8.out 1).trans rfl, (blk_cell BK8.out 0).trans rfl, (blk_cell BK8.out 1).trans rfl⟩ (fun hHeld => ?_)
  clear hK K
  refine norm_ (a' := ?_) ?_ ?_
  rotate_left
  · show Act.put _ (some 28) _ = _
    simp only [Act.put, List.setIfInBounds_toArray, List.set_cons_zero, List.set_cons_succ, i64_w, i32_w]
    rfl
  refine pure_ (i := 4) (N := some 29) (v := ?_) (a' := ?_) #[true, true, true, true, true] rfl rfl (by kernel_rfl) (fun _ _ _ h => h) (Or.inl ⟨by rfl, ?_⟩) ?_ ?_
  rotate_left
  · intro w'
    go_simp
    with_reducible rfl
  rotate_left
  · simp only [Act.put, List.setIfInBounds_toArray, List.set_cons_zero, List.set_cons_succ, i64_w, i32_w]
    rfl
  refine done_ (by kernel_rfl) ?_
  try go_wp2
  go_ret
  exact ⟨rfl, bB HB8.out⟩

end Go.Proofs.Ytffhddibgfaopaa.P
