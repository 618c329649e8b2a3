/- What functions of the program come to, each with the proof that it does, laid by a program of this session out of the translation; no condition is set on any claim. -/
import Derived.Test.YtaopbkbjfmfcdaaZSgPSg0
import Derived.Test.YtaopbkbjfmfcdaaZSgPSg6
namespace Go.Proofs.Ytaopbkbjfmfcdaa.P
open Go.RowKit Go.Proofs.YtaopbkbjfmfcdaaW.PrintWords Go.Proofs.YtaopbkbjfmfcdaaW.PrintLast Go.Proofs.YtaopbkbjfmfcdaaW.PrintMore
attribute [local go_sem] max2_int min2_int max_two min_two max_three min_three max_four min_four   -- for this text's walks alone
set_option linter.unusedVariables false
set_option linter.unusedSimpArgs false

/-! ### impl_TimesTrits: function 95 -/

/-! ### impl_carried: function 109 -/
def impl_carried.f (a0 : Int) : Option (Int × Int) := if a0 > 1 then (some (wrap64 (a0 - 3), 1)) else (if a0 < (-1) then (some (wrap64 (a0 + 3), (-1))) else (some (a0, 0)))
set_option maxHeartbeats 8000000 in
set_option maxRecDepth 100000 in
theorem impl_carried.calls (a0 : Int) (r1 : Int) (r2 : Int) (w : World) (h : impl_carried.f a0 = some (r1, r2)) :
    Calls Try.prog 109 #[.int .i64 a0] w fun e w' => e = .returned (.tuple #[.int .i64 r1, .int .i64 r2]) ∧ Drawn0 w w' := by
  have H : (if a0 > 1 then (some (wrap64 (a0 - 3), 1)) else (if a0 < (-1) then (some (wrap64 (a0 + 3), (-1))) else (some (a0, 0)))) = some (r1, r2) := h
  clear h
  by_cases c2 : a0 > 1
  · rw [if_pos c2] at H
    have c2b0 : decide (1 < a0) = true := decide_eq_true c2
    clear c2
    simp only [Option.some.injEq, Prod.mk.injEq] at H
    obtain ⟨rfl, rfl⟩ := H
    go_enter Try.func109, Try.ntmps109
    go_wp2
    go_ret2
    exact ⟨by first | rfl | (simp; done) | (simp [*]; done), by repeat (first | exact Drawn0.refl _ | apply Drawn0.step)⟩
  · rw [if_neg c2] at H
    have c2b0 : decide (1 < a0) = false := decide_eq_false c2
    clear c2
    by_cases c3 : a0 < (-1)
    · rw [if_pos c3] at H
      have c3b0 : decide (a0 < (-1)) = true := decide_eq_true c3
      clear c3
      simp only [Option.some.injEq, Prod.mk.injEq] at H
      obtain ⟨rfl, rfl⟩ := H
      go_enter Try.func109, Try.ntmps109
      go_wp2
      go_ret2
      exact ⟨by first | rfl | (simp; done) | (simp [*]; done), by repeat (first | exact Drawn0.refl _ | apply Drawn0.step)⟩
    · rw [if_neg c3] at H
      have c3b0 : decide (a0 < (-1)) = false := decide_eq_false c3
      clear c3
      simp only [Option.some.injEq, Prod.mk.injEq] at H
      obtain ⟨rfl, rfl⟩ := H
      go_enter Try.func109, Try.ntmps109
      go_wp2
      go_ret2
      exact ⟨by first | rfl | (simp; done) | (simp [*]; done), by repeat (first | exact Drawn0.refl _ | apply Drawn0.step)⟩

/-! ### impl_HalfAdd: function 97 -/
def impl_HalfAdd.f (k : Nat) (a0 : Int) (a1 : Int) : Option (Int × Int) := (impl_trits.f k (([a0, a1] : List Int))).bind fun t104 => (if t104 = true then ((impl_carried.f (wrap64 (a0 + a1))).bind fun bt105 => (some (bt105.1, bt105.2))) else (some (0, 0)))
set_option maxHeartbeats 8000000 in
set_option maxRecDepth 100000 in
theorem impl_HalfAdd.calls (k : Nat) (a0 : Int) (a1 : Int) (r1 : Int) (r2 : Int) (w : World) (h : impl_HalfAdd.f k a0 a1 = some (r1, r2)) :
    Calls Try.prog 97 #[.int .i64 a0, .int .i64 a1] w fun e w' => e = .returned (.tuple #[.int .i64 r1, .int .i64 r2]) ∧ Below w.heap.size w w' := by
  have HB := Aside0.mk (Below.refl w.heap.size w)
  have H : ((impl_trits.f k (([a0, a1] : List Int))).bind fun t104 => (if t104 = true then ((impl_carried.f (wrap64 (a0 + a1))).bind fun bt105 => (some (bt105.1, bt105.2))) else (some (0, 0)))) = some (r1, r2) := h
  clear h
  obtain ⟨y101, hy101⟩ : ∃ y_ : List Int, y_ = (([a0, a1] : List Int)) := ⟨_, rfl⟩
  replace H : ((impl_trits.f k y101).bind fun t104 => (if t104 = true then ((impl_carried.f (wrap64 (a0 + a1))).bind fun bt105 => (some (bt105.1, bt105.2))) else (some (0, 0)))) = some (r1, r2) := by first | (rw [hy101]; with_reducible exact H) | (have H2_ := (Option.bind_some _ _).symm.trans H; rw [hy101]; with_reducible exact H2_) | (have H2_ := (Option.bind_some _ _).symm.trans H; with_reducible exact H2_) | with_reducible exact H | (rw [hy101]; exact H) | exact H
  have Ny101 := Aside0.mk hy101
  clear hy101
  replace H := Option.bind_eq_some_iff.mp H
  obtain ⟨t104, A30, H⟩ := H
  replace H : (if t104 = true then ((impl_carried.f (wrap64 (a0 + a1))).bind fun bt105 => (some (bt105.1, bt105.2))) else (some (0, 0))) = some (r1, r2) := H
  have A3 := Aside0.mk A30
  clear A30
  by_cases c4 : t104 = true
  · subst c4
    have H1 : ((impl_carried.f (wrap64 (a0 + a1))).bind fun bt105 => (some (bt105.1, bt105.2))) = some (r1, r2) := by rw [if_pos rfl] at H; exact H
    clear H
    have H := H1
    clear H1
    replace H := Option.bind_eq_some_iff.mp H
    obtain ⟨⟨t105, t106⟩, A50, H⟩ := H
    replace H : (some (t105, t106)) = some (r1, r2) := H
    have A5 := Aside0.mk A50
    clear A50
    simp only [Option.some.injEq, Prod.mk.injEq] at H
    obtain ⟨rfl, rfl⟩ := H
    go_enter Try.func97, Try.ntmps97
    go_wp2_with (first | ((with_reducible refine gate_dst (N := 8) rfl ?_); refine Kd.R_lit (Kd.int .i64) _ 3 ?hg (N := 8) ?hd (xs := ([a0, a1] : List Int)) (inner := [.int .i64 a0, .int .i64 a1]) (ok := fun _ => True) (okp := fun _ => True) ?hr ?hp (fun _ hk => hk) trivial (Below.refl _ _) (Nat.le_refl _) (by simp) ?_; (case hd => rfl); (case hg => rfl); (case hr => first | (go_simp; done) | (go_simp; rfl)); (case hp => exact (Reps.one (show Kd.M (Kd.int .i64) _ _ _ a0 [.int .i64 a0] from rfl) (Reps.one (show Kd.M (Kd.int .i64) _ _ _ a1 [.int .i64 a1] from rfl) (Reps.none _ _)))); intro v102 w6 ho7 hb hg_ hnew_; clear hg_ hnew_; (first | rw [← Ny101.out] at ho7 | (simp only [Int.reduceToNat] at ho7; rw [← Ny101.out] at ho7)); have n0_ := Aside0.mk (Kd.R_lower ho7 (below_size (by repeat (first | (with_reducible first | exact HB.out | apply below_alloc | apply pw_below_drewN | apply below_drew1) | exact HB.out)))); have n1_ := Aside0.mk (below_step (by repeat (first | (with_reducible first | exact HB.out | apply below_alloc | apply pw_below_drewN | apply below_drew1) | exact HB.out)) hb); clear HB; have HO103 := n0_; have HB := n1_; clear n0_ n1_; clear hb ho7; obtain ⟨Ao8, co8, eo8⟩ := Kd.R_slice HO103.out; subst eo8) | ((with_reducible refine gate_callee (f := 65) rfl ?_); refine goesL_ (some 9) rfl rfl Try.func65 (by kernel_rfl) rfl #[.slice Ao8 y101.length co8] rfl (by (try simp only [List.map_toArray, List.map_cons, List.map_nil]); first | done | rfl | (simp only [List.length_drop, List.length_take]; rfl)) ?_; (with_reducible refine (impl_trits.calls k _ _ y101 true _ ?side1 ?side2 A3.out).mono ?_); (case side1 => repeat (first | exact (Kd.R_reads' HO103.out).2.2 | (with_reducible refine Kd.C_alloc ?_ _) | (with_reducible refine Kd.C_drewN ?_ _) | (with_reducible refine Kd.C_drew ?_))); (case side2 => exact (Kd.R_reads' HO103.out).2.1); rintro e w' ⟨rfl, ⟨nd, rfl⟩⟩; refine ⟨_, rfl, ?_⟩) | ((with_reducible refine gate_callee (f := 109) rfl ?_); refine goesL_ (some 14) rfl rfl Try.func109 (by kernel_rfl) rfl #[.int .i64 (wrap64 (a0 + a1))] rfl (by (try simp only [List.map_toArray, List.map_cons, List.map_nil]); first | done | rfl | (simp only [List.length_drop, List.length_take]; rfl)) ?_; (with_reducible refine (impl_carried.calls (wrap64 (a0 + a1)) t105 t106 _ A5.out).mono ?_); rintro e w' ⟨rfl, ⟨nd, rfl⟩⟩; refine ⟨_, rfl, ?_⟩))
    go_ret2
    exact ⟨by first | rfl | (simp [errW_none, errW_some] <;> rfl) | (simp [*, errW_none, errW_some] <;> rfl), by repeat (first | (with_reducible first | exact HB.out | apply below_alloc | apply pw_below_drewN | apply below_drew1) | exact HB.out)⟩
  · replace c4 := Bool.eq_false_iff.mpr c4
    subst c4
    have H1 : (some (0, 0)) = some (r1, r2) := by rw [if_neg (show ¬ (false = true) by decide)] at H; exact H
    clear H
    have H := H1
    clear H1
    simp only [Option.some.injEq, Prod.mk.injEq] at H
    obtain ⟨rfl, rfl⟩ := H
    go_enter Try.func97, Try.ntmps97
    go_wp2_with (first | ((with_reducible refine gate_dst (N := 8) rfl ?_); refine Kd.R_lit (Kd.int .i64) _ 3 ?hg (N := 8) ?hd (xs := ([a0, a1] : List Int)) (inner := [.int .i64 a0, .int .i64 a1]) (ok := fun _ => True) (okp := fun _ => True) ?hr ?hp (fun _ hk => hk) trivial (Below.refl _ _) (Nat.le_refl _) (by simp) ?_; (case hd => rfl); (case hg => rfl); (case hr => first | (go_simp; done) | (go_simp; rfl)); (case hp => exact (Reps.one (show Kd.M (Kd.int .i64) _ _ _ a0 [.int .i64 a0] from rfl) (Reps.one (show Kd.M (Kd.int .i64) _ _ _ a1 [.int .i64 a1] from rfl) (Reps.none _ _)))); intro v102 w9 ho10 hb hg_ hnew_; clear hg_ hnew_; (first | rw [← Ny101.out] at ho10 | (simp only [Int.reduceToNat] at ho10; rw [← Ny101.out] at ho10)); have n0_ := Aside0.mk (Kd.R_lower ho10 (below_size (by repeat (first | (with_reducible first | exact HB.out | apply below_alloc | apply pw_below_drewN | apply below_drew1) | exact HB.out)))); have n1_ := Aside0.mk (below_step (by repeat (first | (with_reducible first | exact HB.out | apply below_alloc | apply pw_below_drewN | apply below_drew1) | exact HB.out)) hb); clear HB; have HO103 := n0_; have HB := n1_; clear n0_ n1_; clear hb ho10; obtain ⟨Ao11, co11, eo11⟩ := Kd.R_slice HO103.out; subst eo11) | ((with_reducible refine gate_callee (f := 65) rfl ?_); refine goesL_ (some 9) rfl rfl Try.func65 (by kernel_rfl) rfl #[.slice Ao11 y101.length co11] rfl (by (try simp only [List.map_toArray, List.map_cons, List.map_nil]); first | done | rfl | (simp only [List.length_drop, List.length_take]; rfl)) ?_; (with_reducible refine (impl_trits.calls k _ _ y101 false _ ?side1 ?side2 A3.out).mono ?_); (case side1 => repeat (first | exact (Kd.R_reads' HO103.out).2.2 | (with_reducible refine Kd.C_alloc ?_ _) | (with_reducible refine Kd.C_drewN ?_ _) | (with_reducible refine Kd.C_drew ?_))); (case side2 => exact (Kd.R_reads' HO103.out).2.1); rintro e w' ⟨rfl, ⟨nd, rfl⟩⟩; refine ⟨_, rfl, ?_⟩))
    go_ret2
    exact ⟨by first | rfl | (simp [errW_none, errW_some] <;> rfl) | (simp [*, errW_none, errW_some] <;> rfl), by repeat (first | (with_reducible first | exact HB.out | apply below_alloc | apply pw_below_drewN | apply below_drew1) | exact HB.out)⟩

/-! ### impl_TableOf: function 78 -/
def anyv (a b : Int) : Int := if a + b < 0 then -1 else if a + b > 0 then 1 else 0
def sumv (a b : Int) : Int := if a + b > 1 then a + b - 3 else if a + b < -1 then a + b + 3 else a + b
def carv (a b : Int) : Int := if a + b > 1 then 1 else if a + b < -1 then -1 else 0
theorem two_trits (a b : Int) (ha0 : -1 ≤ a) (ha1 : a ≤ 1) (hb0 : -1 ≤ b) (hb1 : b ≤ 1) : impl_trits.f 10 [a, b] = some true := by
  have e : impl_trits.f 10 [a, b] = some (isT9 [a, b]) := impl_trits_go [a, b] (by simp) 2 10 0 rfl (by omega)
  have q1 : trB a = true := by unfold trB; simp [ha0, ha1]
  have q2 : trB b = true := by unfold trB; simp [hb0, hb1]
  rw [e]
  simp [isT9, q1, q2]
theorem min_nine (a b : Int) (ha0 : -1 ≤ a) (ha1 : a ≤ 1) (hb0 : -1 ≤ b) (hb1 : b ≤ 1) : impl_MinTrits.f 10 a b = some (mn a b) := by
  unfold impl_MinTrits.f
  rw [two_trits a b ha0 ha1 hb0 hb1, bindS, if_pos rfl]
theorem max_nine (a b : Int) (ha0 : -1 ≤ a) (ha1 : a ≤ 1) (hb0 : -1 ≤ b) (hb1 : b ≤ 1) : impl_MaxTrits.f 10 a b = some (mx a b) := by
  unfold impl_MaxTrits.f
  rw [two_trits a b ha0 ha1 hb0 hb1, bindS, if_pos rfl]
theorem any_nine (a b : Int) (ha0 : -1 ≤ a) (ha1 : a ≤ 1) (hb0 : -1 ≤ b) (hb1 : b ≤ 1) : impl_AnyTrits.f 10 a b = some (anyv a b) := by
  unfold impl_AnyTrits.f impl_SignOf.f anyv
  have w1 : wrap64 (a + b) = a + b := by unfold wrap64; omega
  rw [two_trits a b ha0 ha1 hb0 hb1, bindS, if_pos rfl, w1]
  by_cases c : a + b < 0
  · simp only [if_pos c]; rfl
  · simp only [if_neg c]
    by_cases d : a + b > 0
    · simp only [if_pos d]; rfl
    · simp only [if_neg d]; rfl
theorem half_nine (a b : Int) (ha0 : -1 ≤ a) (ha1 : a ≤ 1) (hb0 : -1 ≤ b) (hb1 : b ≤ 1) : impl_HalfAdd.f 10 a b = some (sumv a b, carv a b) := by
  unfold impl_HalfAdd.f impl_carried.f sumv carv
  have w1 : wrap64 (a + b) = a + b := by unfold wrap64; omega
  have w2 : wrap64 (a + b - 3) = a + b - 3 := by unfold wrap64; omega
  have w3 : wrap64 (a + b + 3) = a + b + 3 := by unfold wrap64; omega
  rw [two_trits a b ha0 ha1 hb0 hb1, bindS, if_pos rfl, w1]
  simp only [w2, w3]
  by_cases c : a + b > 1
  · simp only [if_pos c]; rfl
  · simp only [if_neg c]
    by_cases d : a + b < -1
    · simp only [if_pos d]; rfl
    · simp only [if_neg d]; rfl
theorem sum_clo (a b : Int) (w : World) (ha0 : -1 ≤ a) (ha1 : a ≤ 1) (hb0 : -1 ≤ b) (hb1 : b ≤ 1) :
    Calls Try.prog 96 #[.int .i64 a, .int .i64 b] w fun e w' => e = .returned (.int .i64 (sumv a b)) ∧ Below w.heap.size w w' := by
  have HB := Aside0.mk (Below.refl w.heap.size w)
  have HL := Aside0.mk (half_nine a b ha0 ha1 hb0 hb1)
  generalize sumv a b = s at *
  generalize carv a b = c at *
  clear ha0 ha1 hb0 hb1
  go_enter Try.func96, Try.ntmps96
  go_wp2_with (go_at_call 97; (refine (impl_HalfAdd.calls 10 a b s c _ HL.out).mono ?_); rintro e w2 ⟨rfl, hb⟩; have HB2 := Aside0.mk (show Below w.heap.size w w2 from below_step (bB HB.out) hb); clear hb)
  go_ret
  exact ⟨rfl, by repeat (first | (with_reducible first | exact HB2.out | apply below_alloc | apply pw_below_drewN | apply below_drew1) | exact HB2.out)⟩
theorem carry_clo (a b : Int) (w : World) (ha0 : -1 ≤ a) (ha1 : a ≤ 1) (hb0 : -1 ≤ b) (hb1 : b ≤ 1) :
    Calls Try.prog 98 #[.int .i64 a, .int .i64 b] w fun e w' => e = .returned (.int .i64 (carv a b)) ∧ Below w.heap.size w w' := by
  have HB := Aside0.mk (Below.refl w.heap.size w)
  have HL := Aside0.mk (half_nine a b ha0 ha1 hb0 hb1)
  generalize sumv a b = s at *
  generalize carv a b = c at *
  clear ha0 ha1 hb0 hb1
  go_enter Try.func98, Try.ntmps98
  go_wp2_with (go_at_call 97; (refine (impl_HalfAdd.calls 10 a b s c _ HL.out).mono ?_); rintro e w2 ⟨rfl, hb⟩; have HB2 := Aside0.mk (show Below w.heap.size w w2 from below_step (bB HB.out) hb); clear hb)
  go_ret
  exact ⟨rfl, by repeat (first | (with_reducible first | exact HB2.out | apply below_alloc | apply pw_below_drewN | apply below_drew1) | exact HB2.out)⟩
def impl_TableOf.f (a0 : ByteArray) : Option (Int × Int × Int × Int × Int × Int × Int × Int × Int) := if a0 = (⟨#[115, 117, 109]⟩ : ByteArray) then some ((sumv (-1) (-1)), (sumv (-1) 0), (sumv (-1) 1), (sumv 0 (-1)), (sumv 0 0), (sumv 0 1), (sumv 1 (-1)), (sumv 1 0), (sumv 1 1)) else if a0 = (⟨#[99, 97, 114, 114, 121]⟩ : ByteArray) then some ((carv (-1) (-1)), (carv (-1) 0), (carv (-1) 1), (carv 0 (-1)), (carv 0 0), (carv 0 1), (carv 1 (-1)), (carv 1 0), (carv 1 1)) else if a0 = (⟨#[97, 110, 121]⟩ : ByteArray) then some ((anyv (-1) (-1)), (anyv (-1) 0), (anyv (-1) 1), (anyv 0 (-1)), (anyv 0 0), (anyv 0 1), (anyv 1 (-1)), (anyv 1 0), (anyv 1 1)) else if a0 = (⟨#[109, 105, 110]⟩ : ByteArray) then some ((mn (-1) (-1)), (mn (-1) 0), (mn (-1) 1), (mn 0 (-1)), (mn 0 0), (mn 0 1), (mn 1 (-1)), (mn 1 0), (mn 1 1)) else if a0 = (⟨#[109, 97, 120]⟩ : ByteArray) then some ((mx (-1) (-1)), (mx (-1) 0), (mx (-1) 1), (mx 0 (-1)), (mx 0 0), (mx 0 1), (mx 1 (-1)), (mx 1 0), (mx 1 1)) else none
set_option maxHeartbeats 8000000 in
set_option maxRecDepth 100000 in
theorem tableOf_sum (w : World) :
    Calls Try.prog 78 #[.string (⟨#[115, 117, 109]⟩ : ByteArray)] w fun e w' => e = .returned (.agg #[.int .i64 (sumv (-1) (-1)), .int .i64 (sumv (-1) 0), .int .i64 (sumv (-1) 1), .int .i64 (sumv 0 (-1)), .int .i64 (sumv 0 0), .int .i64 (sumv 0 1), .int .i64 (sumv 1 (-1)), .int .i64 (sumv 1 0), .int .i64 (sumv 1 1)]) ∧ Below w.heap.size w w' := by
  have HB := Aside0.mk (Below.refl w.heap.size w)
  go_enter Try.func78, Try.ntmps78
  go_wp2_with (go_at_call 51; (refine (tabled_any 96 _ #[] sumv _ Try.func96 rfl (by kernel_rfl) ?s1).mono ?_); (case s1 => intro a b W hW q0 q1 q2 q3; exact sum_clo a b W q0 q1 q2 q3); rintro e w2 ⟨rfl, hb⟩; have BKr := Aside0.mk (show w2.heap[w.heap.size]? = some (.cells #[.int .i64 0, .int .i64 0, .int .i64 0, .int .i64 0, .int .i64 0, .int .i64 0, .int .i64 0, .int .i64 0, .int .i64 0] 23 (0, 0)) from blk_below (blk_new _ _) hb); have HB2 := Aside0.mk (below_step (show Below w.heap.size w _ from by repeat (first | (with_reducible first | exact HB.out | apply below_alloc | apply pw_below_drewN | apply below_drew1) | exact HB.out)) hb); have hs0 : w2.cell? ⟨w.heap.size, 0, none⟩ = some (.int .i64 0) := (blk_cell BKr.out 0).trans rfl; have hf0 := blk_frozen BKr.out 0; have hs1 : w2.cell? ⟨w.heap.size, 1, none⟩ = some (.int .i64 0) := (blk_cell BKr.out 1).trans rfl; have hf1 := blk_frozen BKr.out 1; have hs2 : w2.cell? ⟨w.heap.size, 2, none⟩ = some (.int .i64 0) := (blk_cell BKr.out 2).trans rfl; have hf2 := blk_frozen BKr.out 2; have hs3 : w2.cell? ⟨w.heap.size, 3, none⟩ = some (.int .i64 0) := (blk_cell BKr.out 3).trans rfl; have hf3 := blk_frozen BKr.out 3; have hs4 : w2.cell? ⟨w.heap.size, 4, none⟩ = some (.int .i64 0) := (blk_cell BKr.out 4).trans rfl; have hf4 := blk_frozen BKr.out 4; have hs5 : w2.cell? ⟨w.heap.size, 5, none⟩ = some (.int .i64 0) := (blk_cell BKr.out 5).trans rfl; have hf5 := blk_frozen BKr.out 5; have hs6 : w2.cell? ⟨w.heap.size, 6, none⟩ = some (.int .i64 0) := (blk_cell BKr.out 6).trans rfl; have hf6 := blk_frozen BKr.out 6; have hs7 : w2.cell? ⟨w.heap.size, 7, none⟩ = some (.int .i64 0) := (blk_cell BKr.out 7).trans rfl; have hf7 := blk_frozen BKr.out 7; have hs8 : w2.cell? ⟨w.heap.size, 8, none⟩ = some (.int .i64 0) := (blk_cell BKr.out 8).trans rfl; have hf8 := blk_frozen BKr.out 8; clear hb)
  refine bodyPost_ret (v := .agg #[.int .i64 (sumv (-1) (-1)), .int .i64 (sumv (-1) 0), .int .i64 (sumv (-1) 1), .int .i64 (sumv 0 (-1)), .int .i64 (sumv 0 0), .int .i64 (sumv 0 1), .int .i64 (sumv 1 (-1)), .int .i64 (sumv 1 0), .int .i64 (sumv 1 1)]) ?hr rfl ?_; (case hr => refine results_cell_row rfl _ _ (w.heap.size) 23 #[.int .i64 (sumv (-1) (-1)), .int .i64 (sumv (-1) 0), .int .i64 (sumv (-1) 1), .int .i64 (sumv 0 (-1)), .int .i64 (sumv 0 0), .int .i64 (sumv 0 1), .int .i64 (sumv 1 (-1)), .int .i64 (sumv 1 0), .int .i64 (sumv 1 1)] (0, 0) _ rfl ?hg Try.underlying23 rfl (by kernel_rfl); (case hg => refine blk_put (cs := #[.int .i64 (sumv (-1) (-1)), .int .i64 (sumv (-1) 0), .int .i64 (sumv (-1) 1), .int .i64 (sumv 0 (-1)), .int .i64 (sumv 0 0), .int .i64 (sumv 0 1), .int .i64 (sumv 1 (-1)), .int .i64 (sumv 1 0), .int .i64 0]) ?_ 8 (.int .i64 (sumv 1 1)) rfl; refine blk_put (cs := #[.int .i64 (sumv (-1) (-1)), .int .i64 (sumv (-1) 0), .int .i64 (sumv (-1) 1), .int .i64 (sumv 0 (-1)), .int .i64 (sumv 0 0), .int .i64 (sumv 0 1), .int .i64 (sumv 1 (-1)), .int .i64 0, .int .i64 0]) ?_ 7 (.int .i64 (sumv 1 0)) rfl; refine blk_put (cs := #[.int .i64 (sumv (-1) (-1)), .int .i64 (sumv (-1) 0), .int .i64 (sumv (-1) 1), .int .i64 (sumv 0 (-1)), .int .i64 (sumv 0 0), .int .i64 (sumv 0 1), .int .i64 0, .int .i64 0, .int .i64 0]) ?_ 6 (.int .i64 (sumv 1 (-1))) rfl; refine blk_put (cs := #[.int .i64 (sumv (-1) (-1)), .int .i64 (sumv (-1) 0), .int .i64 (sumv (-1) 1), .int .i64 (sumv 0 (-1)), .int .i64 (sumv 0 0), .int .i64 0, .int .i64 0, .int .i64 0, .int .i64 0]) ?_ 5 (.int .i64 (sumv 0 1)) rfl; refine blk_put (cs := #[.int .i64 (sumv (-1) (-1)), .int .i64 (sumv (-1) 0), .int .i64 (sumv (-1) 1), .int .i64 (sumv 0 (-1)), .int .i64 0, .int .i64 0, .int .i64 0, .int .i64 0, .int .i64 0]) ?_ 4 (.int .i64 (sumv 0 0)) rfl; refine blk_put (cs := #[.int .i64 (sumv (-1) (-1)), .int .i64 (sumv (-1) 0), .int .i64 (sumv (-1) 1), .int .i64 0, .int .i64 0, .int .i64 0, .int .i64 0, .int .i64 0, .int .i64 0]) ?_ 3 (.int .i64 (sumv 0 (-1))) rfl; refine blk_put (cs := #[.int .i64 (sumv (-1) (-1)), .int .i64 (sumv (-1) 0), .int .i64 0, .int .i64 0, .int .i64 0, .int .i64 0, .int .i64 0, .int .i64 0, .int .i64 0]) ?_ 2 (.int .i64 (sumv (-1) 1)) rfl; refine blk_put (cs := #[.int .i64 (sumv (-1) (-1)), .int .i64 0, .int .i64 0, .int .i64 0, .int .i64 0, .int .i64 0, .int .i64 0, .int .i64 0, .int .i64 0]) ?_ 1 (.int .i64 (sumv (-1) 0)) rfl; refine blk_put (cs := #[.int .i64 0, .int .i64 0, .int .i64 0, .int .i64 0, .int .i64 0, .int .i64 0, .int .i64 0, .int .i64 0, .int .i64 0]) ?_ 0 (.int .i64 (sumv (-1) (-1))) rfl; exact BKr.out))
  exact ⟨rfl, below_set (below_set (below_set (below_set (below_set (below_set (below_set (below_set (below_set (HB2.out) (Nat.le_refl _)) (Nat.le_refl _)) (Nat.le_refl _)) (Nat.le_refl _)) (Nat.le_refl _)) (Nat.le_refl _)) (Nat.le_refl _)) (Nat.le_refl _)) (Nat.le_refl _)⟩
set_option maxHeartbeats 8000000 in
set_option maxRecDepth 100000 in
theorem tableOf_carry (w : World) :
    Calls Try.prog 78 #[.string (⟨#[99, 97, 114, 114, 121]⟩ : ByteArray)] w fun e w' => e = .returned (.agg #[.int .i64 (carv (-1) (-1)), .int .i64 (carv (-1) 0), .int .i64 (carv (-1) 1), .int .i64 (carv 0 (-1)), .int .i64 (carv 0 0), .int .i64 (carv 0 1), .int .i64 (carv 1 (-1)), .int .i64 (carv 1 0), .int .i64 (carv 1 1)]) ∧ Below w.heap.size w w' := by
  have HB := Aside0.mk (Below.refl w.heap.size w)
  go_enter Try.func78, Try.ntmps78
  go_wp2_with (go_at_call 51; (refine (tabled_any 98 _ #[] carv _ Try.func98 rfl (by kernel_rfl) ?s1).mono ?_); (case s1 => intro a b W hW q0 q1 q2 q3; exact carry_clo a b W q0 q1 q2 q3); rintro e w2 ⟨rfl, hb⟩; have BKr := Aside0.mk (show w2.heap[w.heap.size]? = some (.cells #[.int .i64 0, .int .i64 0, .int .i64 0, .int .i64 0, .int .i64 0, .int .i64 0, .int .i64 0, .int .i64 0, .int .i64 0] 23 (0, 0)) from blk_below (blk_new _ _) hb); have HB2 := Aside0.mk (below_step (show Below w.heap.size w _ from by repeat (first | (with_reducible first | exact HB.out | apply below_alloc | apply pw_below_drewN | apply below_drew1) | exact HB.out)) hb); have hs0 : w2.cell? ⟨w.heap.size, 0, none⟩ = some (.int .i64 0) := (blk_cell BKr.out 0).trans rfl; have hf0 := blk_frozen BKr.out 0; have hs1 : w2.cell? ⟨w.heap.size, 1, none⟩ = some (.int .i64 0) := (blk_cell BKr.out 1).trans rfl; have hf1 := blk_frozen BKr.out 1; have hs2 : w2.cell? ⟨w.heap.size, 2, none⟩ = some (.int .i64 0) := (blk_cell BKr.out 2).trans rfl; have hf2 := blk_frozen BKr.out 2; have hs3 : w2.cell? ⟨w.heap.size, 3, none⟩ = some (.int .i64 0) := (blk_cell BKr.out 3).trans rfl; have hf3 := blk_frozen BKr.out 3; have hs4 : w2.cell? ⟨w.heap.size, 4, none⟩ = some (.int .i64 0) := (blk_cell BKr.out 4).trans rfl; have hf4 := blk_frozen BKr.out 4; have hs5 : w2.cell? ⟨w.heap.size, 5, none⟩ = some (.int .i64 0) := (blk_cell BKr.out 5).trans rfl; have hf5 := blk_frozen BKr.out 5; have hs6 : w2.cell? ⟨w.heap.size, 6, none⟩ = some (.int .i64 0) := (blk_cell BKr.out 6).trans rfl; have hf6 := blk_frozen BKr.out 6; have hs7 : w2.cell? ⟨w.heap.size, 7, none⟩ = some (.int .i64 0) := (blk_cell BKr.out 7).trans rfl; have hf7 := blk_frozen BKr.out 7; have hs8 : w2.cell? ⟨w.heap.size, 8, none⟩ = some (.int .i64 0) := (blk_cell BKr.out 8).trans rfl; have hf8 := blk_frozen BKr.out 8; clear hb)
  refine bodyPost_ret (v := .agg #[.int .i64 (carv (-1) (-1)), .int .i64 (carv (-1) 0), .int .i64 (carv (-1) 1), .int .i64 (carv 0 (-1)), .int .i64 (carv 0 0), .int .i64 (carv 0 1), .int .i64 (carv 1 (-1)), .int .i64 (carv 1 0), .int .i64 (carv 1 1)]) ?hr rfl ?_; (case hr => refine results_cell_row rfl _ _ (w.heap.size) 23 #[.int .i64 (carv (-1) (-1)), .int .i64 (carv (-1) 0), .int .i64 (carv (-1) 1), .int .i64 (carv 0 (-1)), .int .i64 (carv 0 0), .int .i64 (carv 0 1), .int .i64 (carv 1 (-1)), .int .i64 (carv 1 0), .int .i64 (carv 1 1)] (0, 0) _ rfl ?hg Try.underlying23 rfl (by kernel_rfl); (case hg => refine blk_put (cs := #[.int .i64 (carv (-1) (-1)), .int .i64 (carv (-1) 0), .int .i64 (carv (-1) 1), .int .i64 (carv 0 (-1)), .int .i64 (carv 0 0), .int .i64 (carv 0 1), .int .i64 (carv 1 (-1)), .int .i64 (carv 1 0), .int .i64 0]) ?_ 8 (.int .i64 (carv 1 1)) rfl; refine blk_put (cs := #[.int .i64 (carv (-1) (-1)), .int .i64 (carv (-1) 0), .int .i64 (carv (-1) 1), .int .i64 (carv 0 (-1)), .int .i64 (carv 0 0), .int .i64 (carv 0 1), .int .i64 (carv 1 (-1)), .int .i64 0, .int .i64 0]) ?_ 7 (.int .i64 (carv 1 0)) rfl; refine blk_put (cs := #[.int .i64 (carv (-1) (-1)), .int .i64 (carv (-1) 0), .int .i64 (carv (-1) 1), .int .i64 (carv 0 (-1)), .int .i64 (carv 0 0), .int .i64 (carv 0 1), .int .i64 0, .int .i64 0, .int .i64 0]) ?_ 6 (.int .i64 (carv 1 (-1))) rfl; refine blk_put (cs := #[.int .i64 (carv (-1) (-1)), .int .i64 (carv (-1) 0), .int .i64 (carv (-1) 1), .int .i64 (carv 0 (-1)), .int .i64 (carv 0 0), .int .i64 0, .int .i64 0, .int .i64 0, .int .i64 0]) ?_ 5 (.int .i64 (carv 0 1)) rfl; refine blk_put (cs := #[.int .i64 (carv (-1) (-1)), .int .i64 (carv (-1) 0), .int .i64 (carv (-1) 1), .int .i64 (carv 0 (-1)), .int .i64 0, .int .i64 0, .int .i64 0, .int .i64 0, .int .i64 0]) ?_ 4 (.int .i64 (carv 0 0)) rfl; refine blk_put (cs := #[.int .i64 (carv (-1) (-1)), .int .i64 (carv (-1) 0), .int .i64 (carv (-1) 1), .int .i64 0, .int .i64 0, .int .i64 0, .int .i64 0, .int .i64 0, .int .i64 0]) ?_ 3 (.int .i64 (carv 0 (-1))) rfl; refine blk_put (cs := #[.int .i64 (carv (-1) (-1)), .int .i64 (carv (-1) 0), .int .i64 0, .int .i64 0, .int .i64 0, .int .i64 0, .int .i64 0, .int .i64 0, .int .i64 0]) ?_ 2 (.int .i64 (carv (-1) 1)) rfl; refine blk_put (cs := #[.int .i64 (carv (-1) (-1)), .int .i64 0, .int .i64 0, .int .i64 0, .int .i64 0, .int .i64 0, .int .i64 0, .int .i64 0, .int .i64 0]) ?_ 1 (.int .i64 (carv (-1) 0)) rfl; refine blk_put (cs := #[.int .i64 0, .int .i64 0, .int .i64 0, .int .i64 0, .int .i64 0, .int .i64 0, .int .i64 0, .int .i64 0, .int .i64 0]) ?_ 0 (.int .i64 (carv (-1) (-1))) rfl; exact BKr.out))
  exact ⟨rfl, below_set (below_set (below_set (below_set (below_set (below_set (below_set (below_set (below_set (HB2.out) (Nat.le_refl _)) (Nat.le_refl _)) (Nat.le_refl _)) (Nat.le_refl _)) (Nat.le_refl _)) (Nat.le_refl _)) (Nat.le_refl _)) (Nat.le_refl _)) (Nat.le_refl _)⟩
set_option maxHeartbeats 8000000 in
set_option maxRecDepth 100000 in
theorem tableOf_any (w : World) :
    Calls Try.prog 78 #[.string (⟨#[97, 110, 121]⟩ : ByteArray)] w fun e w' => e = .returned (.agg #[.int .i64 (anyv (-1) (-1)), .int .i64 (anyv (-1) 0), .int .i64 (anyv (-1) 1), .int .i64 (anyv 0 (-1)), .int .i64 (anyv 0 0), .int .i64 (anyv 0 1), .int .i64 (anyv 1 (-1)), .int .i64 (anyv 1 0), .int .i64 (anyv 1 1)]) ∧ Below w.heap.size w w' := by
  have HB := Aside0.mk (Below.refl w.heap.size w)
  go_enter Try.func78, Try.ntmps78
  go_wp2_with (go_at_call 51; (refine (tabled_any 94 _ #[] anyv _ Try.func94 rfl (by kernel_rfl) ?s1).mono ?_); (case s1 => intro a b W hW q0 q1 q2 q3; exact impl_AnyTrits.calls 10 a b _ W (any_nine a b q0 q1 q2 q3)); rintro e w2 ⟨rfl, hb⟩; have BKr := Aside0.mk (show w2.heap[w.heap.size]? = some (.cells #[.int .i64 0, .int .i64 0, .int .i64 0, .int .i64 0, .int .i64 0, .int .i64 0, .int .i64 0, .int .i64 0, .int .i64 0] 23 (0, 0)) from blk_below (blk_new _ _) hb); have HB2 := Aside0.mk (below_step (show Below w.heap.size w _ from by repeat (first | (with_reducible first | exact HB.out | apply below_alloc | apply pw_below_drewN | apply below_drew1) | exact HB.out)) hb); have hs0 : w2.cell? ⟨w.heap.size, 0, none⟩ = some (.int .i64 0) := (blk_cell BKr.out 0).trans rfl; have hf0 := blk_frozen BKr.out 0; have hs1 : w2.cell? ⟨w.heap.size, 1, none⟩ = some (.int .i64 0) := (blk_cell BKr.out 1).trans rfl; have hf1 := blk_frozen BKr.out 1; have hs2 : w2.cell? ⟨w.heap.size, 2, none⟩ = some (.int .i64 0) := (blk_cell BKr.out 2).trans rfl; have hf2 := blk_frozen BKr.out 2; have hs3 : w2.cell? ⟨w.heap.size, 3, none⟩ = some (.int .i64 0) := (blk_cell BKr.out 3).trans rfl; have hf3 := blk_frozen BKr.out 3; have hs4 : w2.cell? ⟨w.heap.size, 4, none⟩ = some (.int .i64 0) := (blk_cell BKr.out 4).trans rfl; have hf4 := blk_frozen BKr.out 4; have hs5 : w2.cell? ⟨w.heap.size, 5, none⟩ = some (.int .i64 0) := (blk_cell BKr.out 5).trans rfl; have hf5 := blk_frozen BKr.out 5; have hs6 : w2.cell? ⟨w.heap.size, 6, none⟩ = some (.int .i64 0) := (blk_cell BKr.out 6).trans rfl; have hf6 := blk_frozen BKr.out 6; have hs7 : w2.cell? ⟨w.heap.size, 7, none⟩ = some (.int .i64 0) := (blk_cell BKr.out 7).trans rfl; have hf7 := blk_frozen BKr.out 7; have hs8 : w2.cell? ⟨w.heap.size, 8, none⟩ = some (.int .i64 0) := (blk_cell BKr.out 8).trans rfl; have hf8 := blk_frozen BKr.out 8; clear hb)
  refine bodyPost_ret (v := .agg #[.int .i64 (anyv (-1) (-1)), .int .i64 (anyv (-1) 0), .int .i64 (anyv (-1) 1), .int .i64 (anyv 0 (-1)), .int .i64 (anyv 0 0), .int .i64 (anyv 0 1), .int .i64 (anyv 1 (-1)), .int .i64 (anyv 1 0), .int .i64 (anyv 1 1)]) ?hr rfl ?_; (case hr => refine results_cell_row rfl _ _ (w.heap.size) 23 #[.int .i64 (anyv (-1) (-1)), .int .i64 (anyv (-1) 0), .int .i64 (anyv (-1) 1), .int .i64 (anyv 0 (-1)), .int .i64 (anyv 0 0), .int .i64 (anyv 0 1), .int .i64 (anyv 1 (-1)), .int .i64 (anyv 1 0), .int .i64 (anyv 1 1)] (0, 0) _ rfl ?hg Try.underlying23 rfl (by kernel_rfl); (case hg => refine blk_put (cs := #[.int .i64 (anyv (-1) (-1)), .int .i64 (anyv (-1) 0), .int .i64 (anyv (-1) 1), .int .i64 (anyv 0 (-1)), .int .i64 (anyv 0 0), .int .i64 (anyv 0 1), .int .i64 (anyv 1 (-1)), .int .i64 (anyv 1 0), .int .i64 0]) ?_ 8 (.int .i64 (anyv 1 1)) rfl; refine blk_put (cs := #[.int .i64 (anyv (-1) (-1)), .int .i64 (anyv (-1) 0), .int .i64 (anyv (-1) 1), .int .i64 (anyv 0 (-1)), .int .i64 (anyv 0 0), .int .i64 (anyv 0 1), .int .i64 (anyv 1 (-1)), .int .i64 0, .int .i64 0]) ?_ 7 (.int .i64 (anyv 1 0)) rfl; refine blk_put (cs := #[.int .i64 (anyv (-1) (-1)), .int .i64 (anyv (-1) 0), .int .i64 (anyv (-1) 1), .int .i64 (anyv 0 (-1)), .int .i64 (anyv 0 0), .int .i64 (anyv 0 1), .int .i64 0, .int .i64 0, .int .i64 0]) ?_ 6 (.int .i64 (anyv 1 (-1))) rfl; refine blk_put (cs := #[.int .i64 (anyv (-1) (-1)), .int .i64 (anyv (-1) 0), .int .i64 (anyv (-1) 1), .int .i64 (anyv 0 (-1)), .int .i64 (anyv 0 0), .int .i64 0, .int .i64 0, .int .i64 0, .int .i64 0]) ?_ 5 (.int .i64 (anyv 0 1)) rfl; refine blk_put (cs := #[.int .i64 (anyv (-1) (-1)), .int .i64 (anyv (-1) 0), .int .i64 (anyv (-1) 1), .int .i64 (anyv 0 (-1)), .int .i64 0, .int .i64 0, .int .i64 0, .int .i64 0, .int .i64 0]) ?_ 4 (.int .i64 (anyv 0 0)) rfl; refine blk_put (cs := #[.int .i64 (anyv (-1) (-1)), .int .i64 (anyv (-1) 0), .int .i64 (anyv (-1) 1), .int .i64 0, .int .i64 0, .int .i64 0, .int .i64 0, .int .i64 0, .int .i64 0]) ?_ 3 (.int .i64 (anyv 0 (-1))) rfl; refine blk_put (cs := #[.int .i64 (anyv (-1) (-1)), .int .i64 (anyv (-1) 0), .int .i64 0, .int .i64 0, .int .i64 0, .int .i64 0, .int .i64 0, .int .i64 0, .int .i64 0]) ?_ 2 (.int .i64 (anyv (-1) 1)) rfl; refine blk_put (cs := #[.int .i64 (anyv (-1) (-1)), .int .i64 0, .int .i64 0, .int .i64 0, .int .i64 0, .int .i64 0, .int .i64 0, .int .i64 0, .int .i64 0]) ?_ 1 (.int .i64 (anyv (-1) 0)) rfl; refine blk_put (cs := #[.int .i64 0, .int .i64 0, .int .i64 0, .int .i64 0, .int .i64 0, .int .i64 0, .int .i64 0, .int .i64 0, .int .i64 0]) ?_ 0 (.int .i64 (anyv (-1) (-1))) rfl; exact BKr.out))
  exact ⟨rfl, below_set (below_set (below_set (below_set (below_set (below_set (below_set (below_set (below_set (HB2.out) (Nat.le_refl _)) (Nat.le_refl _)) (Nat.le_refl _)) (Nat.le_refl _)) (Nat.le_refl _)) (Nat.le_refl _)) (Nat.le_refl _)) (Nat.le_refl _)) (Nat.le_refl _)⟩
set_option maxHeartbeats 8000000 in
set_option maxRecDepth 100000 in
theorem tableOf_min (w : World) :
    Calls Try.prog 78 #[.string (⟨#[109, 105, 110]⟩ : ByteArray)] w fun e w' => e = .returned (.agg #[.int .i64 (mn (-1) (-1)), .int .i64 (mn (-1) 0), .int .i64 (mn (-1) 1), .int .i64 (mn 0 (-1)), .int .i64 (mn 0 0), .int .i64 (mn 0 1), .int .i64 (mn 1 (-1)), .int .i64 (mn 1 0), .int .i64 (mn 1 1)]) ∧ Below w.heap.size w w' := by
  have HB := Aside0.mk (Below.refl w.heap.size w)
  go_enter Try.func78, Try.ntmps78
  go_wp2_with (go_at_call 51; (refine (tabled_any 91 _ #[] mn _ Try.func91 rfl (by kernel_rfl) ?s1).mono ?_); (case s1 => intro a b W hW q0 q1 q2 q3; exact impl_MinTrits.calls 10 a b _ W (min_nine a b q0 q1 q2 q3)); rintro e w2 ⟨rfl, hb⟩; have BKr := Aside0.mk (show w2.heap[w.heap.size]? = some (.cells #[.int .i64 0, .int .i64 0, .int .i64 0, .int .i64 0, .int .i64 0, .int .i64 0, .int .i64 0, .int .i64 0, .int .i64 0] 23 (0, 0)) from blk_below (blk_new _ _) hb); have HB2 := Aside0.mk (below_step (show Below w.heap.size w _ from by repeat (first | (with_reducible first | exact HB.out | apply below_alloc | apply pw_below_drewN | apply below_drew1) | exact HB.out)) hb); have hs0 : w2.cell? ⟨w.heap.size, 0, none⟩ = some (.int .i64 0) := (blk_cell BKr.out 0).trans rfl; have hf0 := blk_frozen BKr.out 0; have hs1 : w2.cell? ⟨w.heap.size, 1, none⟩ = some (.int .i64 0) := (blk_cell BKr.out 1).trans rfl; have hf1 := blk_frozen BKr.out 1; have hs2 : w2.cell? ⟨w.heap.size, 2, none⟩ = some (.int .i64 0) := (blk_cell BKr.out 2).trans rfl; have hf2 := blk_frozen BKr.out 2; have hs3 : w2.cell? ⟨w.heap.size, 3, none⟩ = some (.int .i64 0) := (blk_cell BKr.out 3).trans rfl; have hf3 := blk_frozen BKr.out 3; have hs4 : w2.cell? ⟨w.heap.size, 4, none⟩ = some (.int .i64 0) := (blk_cell BKr.out 4).trans rfl; have hf4 := blk_frozen BKr.out 4; have hs5 : w2.cell? ⟨w.heap.size, 5, none⟩ = some (.int .i64 0) := (blk_cell BKr.out 5).trans rfl; have hf5 := blk_frozen BKr.out 5; have hs6 : w2.cell? ⟨w.heap.size, 6, none⟩ = some (.int .i64 0) := (blk_cell BKr.out 6).trans rfl; have hf6 := blk_frozen BKr.out 6; have hs7 : w2.cell? ⟨w.heap.size, 7, none⟩ = some (.int .i64 0) := (blk_cell BKr.out 7).trans rfl; have hf7 := blk_frozen BKr.out 7; have hs8 : w2.cell? ⟨w.heap.size, 8, none⟩ = some (.int .i64 0) := (blk_cell BKr.out 8).trans rfl; have hf8 := blk_frozen BKr.out 8; clear hb)
  refine bodyPost_ret (v := .agg #[.int .i64 (mn (-1) (-1)), .int .i64 (mn (-1) 0), .int .i64 (mn (-1) 1), .int .i64 (mn 0 (-1)), .int .i64 (mn 0 0), .int .i64 (mn 0 1), .int .i64 (mn 1 (-1)), .int .i64 (mn 1 0), .int .i64 (mn 1 1)]) ?hr rfl ?_; (case hr => refine results_cell_row rfl _ _ (w.heap.size) 23 #[.int .i64 (mn (-1) (-1)), .int .i64 (mn (-1) 0), .int .i64 (mn (-1) 1), .int .i64 (mn 0 (-1)), .int .i64 (mn 0 0), .int .i64 (mn 0 1), .int .i64 (mn 1 (-1)), .int .i64 (mn 1 0), .int .i64 (mn 1 1)] (0, 0) _ rfl ?hg Try.underlying23 rfl (by kernel_rfl); (case hg => refine blk_put (cs := #[.int .i64 (mn (-1) (-1)), .int .i64 (mn (-1) 0), .int .i64 (mn (-1) 1), .int .i64 (mn 0 (-1)), .int .i64 (mn 0 0), .int .i64 (mn 0 1), .int .i64 (mn 1 (-1)), .int .i64 (mn 1 0), .int .i64 0]) ?_ 8 (.int .i64 (mn 1 1)) rfl; refine blk_put (cs := #[.int .i64 (mn (-1) (-1)), .int .i64 (mn (-1) 0), .int .i64 (mn (-1) 1), .int .i64 (mn 0 (-1)), .int .i64 (mn 0 0), .int .i64 (mn 0 1), .int .i64 (mn 1 (-1)), .int .i64 0, .int .i64 0]) ?_ 7 (.int .i64 (mn 1 0)) rfl; refine blk_put (cs := #[.int .i64 (mn (-1) (-1)), .int .i64 (mn (-1) 0), .int .i64 (mn (-1) 1), .int .i64 (mn 0 (-1)), .int .i64 (mn 0 0), .int .i64 (mn 0 1), .int .i64 0, .int .i64 0, .int .i64 0]) ?_ 6 (.int .i64 (mn 1 (-1))) rfl; refine blk_put (cs := #[.int .i64 (mn (-1) (-1)), .int .i64 (mn (-1) 0), .int .i64 (mn (-1) 1), .int .i64 (mn 0 (-1)), .int .i64 (mn 0 0), .int .i64 0, .int .i64 0, .int .i64 0, .int .i64 0]) ?_ 5 (.int .i64 (mn 0 1)) rfl; refine blk_put (cs := #[.int .i64 (mn (-1) (-1)), .int .i64 (mn (-1) 0), .int .i64 (mn (-1) 1), .int .i64 (mn 0 (-1)), .int .i64 0, .int .i64 0, .int .i64 0, .int .i64 0, .int .i64 0]) ?_ 4 (.int .i64 (mn 0 0)) rfl; refine blk_put (cs := #[.int .i64 (mn (-1) (-1)), .int .i64 (mn (-1) 0), .int .i64 (mn (-1) 1), .int .i64 0, .int .i64 0, .int .i64 0, .int .i64 0, .int .i64 0, .int .i64 0]) ?_ 3 (.int .i64 (mn 0 (-1))) rfl; refine blk_put (cs := #[.int .i64 (mn (-1) (-1)), .int .i64 (mn (-1) 0), .int .i64 0, .int .i64 0, .int .i64 0, .int .i64 0, .int .i64 0, .int .i64 0, .int .i64 0]) ?_ 2 (.int .i64 (mn (-1) 1)) rfl; refine blk_put (cs := #[.int .i64 (mn (-1) (-1)), .int .i64 0, .int .i64 0, .int .i64 0, .int .i64 0, .int .i64 0, .int .i64 0, .int .i64 0, .int .i64 0]) ?_ 1 (.int .i64 (mn (-1) 0)) rfl; refine blk_put (cs := #[.int .i64 0, .int .i64 0, .int .i64 0, .int .i64 0, .int .i64 0, .int .i64 0, .int .i64 0, .int .i64 0, .int .i64 0]) ?_ 0 (.int .i64 (mn (-1) (-1))) rfl; exact BKr.out))
  exact ⟨rfl, below_set (below_set (below_set (below_set (below_set (below_set (below_set (below_set (below_set (HB2.out) (Nat.le_refl _)) (Nat.le_refl _)) (Nat.le_refl _)) (Nat.le_refl _)) (Nat.le_refl _)) (Nat.le_refl _)) (Nat.le_refl _)) (Nat.le_refl _)) (Nat.le_refl _)⟩
set_option maxHeartbeats 8000000 in
set_option maxRecDepth 100000 in
theorem tableOf_max (w : World) :
    Calls Try.prog 78 #[.string (⟨#[109, 97, 120]⟩ : ByteArray)] w fun e w' => e = .returned (.agg #[.int .i64 (mx (-1) (-1)), .int .i64 (mx (-1) 0), .int .i64 (mx (-1) 1), .int .i64 (mx 0 (-1)), .int .i64 (mx 0 0), .int .i64 (mx 0 1), .int .i64 (mx 1 (-1)), .int .i64 (mx 1 0), .int .i64 (mx 1 1)]) ∧ Below w.heap.size w w' := by
  have HB := Aside0.mk (Below.refl w.heap.size w)
  go_enter Try.func78, Try.ntmps78
  go_wp2_with (go_at_call 51; (refine (tabled_any 92 _ #[] mx _ Try.func92 rfl (by kernel_rfl) ?s1).mono ?_); (case s1 => intro a b W hW q0 q1 q2 q3; exact impl_MaxTrits.calls 10 a b _ W (max_nine a b q0 q1 q2 q3)); rintro e w2 ⟨rfl, hb⟩; have BKr := Aside0.mk (show w2.heap[w.heap.size]? = some (.cells #[.int .i64 0, .int .i64 0, .int .i64 0, .int .i64 0, .int .i64 0, .int .i64 0, .int .i64 0, .int .i64 0, .int .i64 0] 23 (0, 0)) from blk_below (blk_new _ _) hb); have HB2 := Aside0.mk (below_step (show Below w.heap.size w _ from by repeat (first | (with_reducible first | exact HB.out | apply below_alloc | apply pw_below_drewN | apply below_drew1) | exact HB.out)) hb); have hs0 : w2.cell? ⟨w.heap.size, 0, none⟩ = some (.int .i64 0) := (blk_cell BKr.out 0).trans rfl; have hf0 := blk_frozen BKr.out 0; have hs1 : w2.cell? ⟨w.heap.size, 1, none⟩ = some (.int .i64 0) := (blk_cell BKr.out 1).trans rfl; have hf1 := blk_frozen BKr.out 1; have hs2 : w2.cell? ⟨w.heap.size, 2, none⟩ = some (.int .i64 0) := (blk_cell BKr.out 2).trans rfl; have hf2 := blk_frozen BKr.out 2; have hs3 : w2.cell? ⟨w.heap.size, 3, none⟩ = some (.int .i64 0) := (blk_cell BKr.out 3).trans rfl; have hf3 := blk_frozen BKr.out 3; have hs4 : w2.cell? ⟨w.heap.size, 4, none⟩ = some (.int .i64 0) := (blk_cell BKr.out 4).trans rfl; have hf4 := blk_frozen BKr.out 4; have hs5 : w2.cell? ⟨w.heap.size, 5, none⟩ = some (.int .i64 0) := (blk_cell BKr.out 5).trans rfl; have hf5 := blk_frozen BKr.out 5; have hs6 : w2.cell? ⟨w.heap.size, 6, none⟩ = some (.int .i64 0) := (blk_cell BKr.out 6).trans rfl; have hf6 := blk_frozen BKr.out 6; have hs7 : w2.cell? ⟨w.heap.size, 7, none⟩ = some (.int .i64 0) := (blk_cell BKr.out 7).trans rfl; have hf7 := blk_frozen BKr.out 7; have hs8 : w2.cell? ⟨w.heap.size, 8, none⟩ = some (.int .i64 0) := (blk_cell BKr.out 8).trans rfl; have hf8 := blk_frozen BKr.out 8; clear hb)
  refine bodyPost_ret (v := .agg #[.int .i64 (mx (-1) (-1)), .int .i64 (mx (-1) 0), .int .i64 (mx (-1) 1), .int .i64 (mx 0 (-1)), .int .i64 (mx 0 0), .int .i64 (mx 0 1), .int .i64 (mx 1 (-1)), .int .i64 (mx 1 0), .int .i64 (mx 1 1)]) ?hr rfl ?_; (case hr => refine results_cell_row rfl _ _ (w.heap.size) 23 #[.int .i64 (mx (-1) (-1)), .int .i64 (mx (-1) 0), .int .i64 (mx (-1) 1), .int .i64 (mx 0 (-1)), .int .i64 (mx 0 0), .int .i64 (mx 0 1), .int .i64 (mx 1 (-1)), .int .i64 (mx 1 0), .int .i64 (mx 1 1)] (0, 0) _ rfl ?hg Try.underlying23 rfl (by kernel_rfl); (case hg => refine blk_put (cs := #[.int .i64 (mx (-1) (-1)), .int .i64 (mx (-1) 0), .int .i64 (mx (-1) 1), .int .i64 (mx 0 (-1)), .int .i64 (mx 0 0), .int .i64 (mx 0 1), .int .i64 (mx 1 (-1)), .int .i64 (mx 1 0), .int .i64 0]) ?_ 8 (.int .i64 (mx 1 1)) rfl; refine blk_put (cs := #[.int .i64 (mx (-1) (-1)), .int .i64 (mx (-1) 0), .int .i64 (mx (-1) 1), .int .i64 (mx 0 (-1)), .int .i64 (mx 0 0), .int .i64 (mx 0 1), .int .i64 (mx 1 (-1)), .int .i64 0, .int .i64 0]) ?_ 7 (.int .i64 (mx 1 0)) rfl; refine blk_put (cs := #[.int .i64 (mx (-1) (-1)), .int .i64 (mx (-1) 0), .int .i64 (mx (-1) 1), .int .i64 (mx 0 (-1)), .int .i64 (mx 0 0), .int .i64 (mx 0 1), .int .i64 0, .int .i64 0, .int .i64 0]) ?_ 6 (.int .i64 (mx 1 (-1))) rfl; refine blk_put (cs := #[.int .i64 (mx (-1) (-1)), .int .i64 (mx (-1) 0), .int .i64 (mx (-1) 1), .int .i64 (mx 0 (-1)), .int .i64 (mx 0 0), .int .i64 0, .int .i64 0, .int .i64 0, .int .i64 0]) ?_ 5 (.int .i64 (mx 0 1)) rfl; refine blk_put (cs := #[.int .i64 (mx (-1) (-1)), .int .i64 (mx (-1) 0), .int .i64 (mx (-1) 1), .int .i64 (mx 0 (-1)), .int .i64 0, .int .i64 0, .int .i64 0, .int .i64 0, .int .i64 0]) ?_ 4 (.int .i64 (mx 0 0)) rfl; refine blk_put (cs := #[.int .i64 (mx (-1) (-1)), .int .i64 (mx (-1) 0), .int .i64 (mx (-1) 1), .int .i64 0, .int .i64 0, .int .i64 0, .int .i64 0, .int .i64 0, .int .i64 0]) ?_ 3 (.int .i64 (mx 0 (-1))) rfl; refine blk_put (cs := #[.int .i64 (mx (-1) (-1)), .int .i64 (mx (-1) 0), .int .i64 0, .int .i64 0, .int .i64 0, .int .i64 0, .int .i64 0, .int .i64 0, .int .i64 0]) ?_ 2 (.int .i64 (mx (-1) 1)) rfl; refine blk_put (cs := #[.int .i64 (mx (-1) (-1)), .int .i64 0, .int .i64 0, .int .i64 0, .int .i64 0, .int .i64 0, .int .i64 0, .int .i64 0, .int .i64 0]) ?_ 1 (.int .i64 (mx (-1) 0)) rfl; refine blk_put (cs := #[.int .i64 0, .int .i64 0, .int .i64 0, .int .i64 0, .int .i64 0, .int .i64 0, .int .i64 0, .int .i64 0, .int .i64 0]) ?_ 0 (.int .i64 (mx (-1) (-1))) rfl; exact BKr.out))
  exact ⟨rfl, below_set (below_set (below_set (below_set (below_set (below_set (below_set (below_set (below_set (HB2.out) (Nat.le_refl _)) (Nat.le_refl _)) (Nat.le_refl _)) (Nat.le_refl _)) (Nat.le_refl _)) (Nat.le_refl _)) (Nat.le_refl _)) (Nat.le_refl _)) (Nat.le_refl _)⟩
theorem impl_TableOf.calls (a0 : ByteArray) (r1 r2 r3 r4 r5 r6 r7 r8 r9 : Int) (w : World) (h : impl_TableOf.f a0 = some (r1, r2, r3, r4, r5, r6, r7, r8, r9)) :
    Calls Try.prog 78 #[.string a0] w fun e w' => e = .returned (.agg #[.int .i64 r1, .int .i64 r2, .int .i64 r3, .int .i64 r4, .int .i64 r5, .int .i64 r6, .int .i64 r7, .int .i64 r8, .int .i64 r9]) ∧ Below w.heap.size w w' := by
  unfold impl_TableOf.f at h
  by_cases csum : a0 = (⟨#[115, 117, 109]⟩ : ByteArray)
  · rw [if_pos csum] at h
    have h2 := Option.some.inj h
    simp only [Prod.mk.injEq] at h2
    obtain ⟨rfl, rfl, rfl, rfl, rfl, rfl, rfl, rfl, rfl⟩ := h2
    subst csum
    exact tableOf_sum w
  · rw [if_neg csum] at h
    by_cases ccarry : a0 = (⟨#[99, 97, 114, 114, 121]⟩ : ByteArray)
    · rw [if_pos ccarry] at h
      have h2 := Option.some.inj h
      simp only [Prod.mk.injEq] at h2
      obtain ⟨rfl, rfl, rfl, rfl, rfl, rfl, rfl, rfl, rfl⟩ := h2
      subst ccarry
      exact tableOf_carry w
    · rw [if_neg ccarry] at h
      by_cases cany : a0 = (⟨#[97, 110, 121]⟩ : ByteArray)
      · rw [if_pos cany] at h
        have h2 := Option.some.inj h
        simp only [Prod.mk.injEq] at h2
        obtain ⟨rfl, rfl, rfl, rfl, rfl, rfl, rfl, rfl, rfl⟩ := h2
        subst cany
        exact tableOf_any w
      · rw [if_neg cany] at h
        by_cases cmin : a0 = (⟨#[109, 105, 110]⟩ : ByteArray)
        · rw [if_pos cmin] at h
          have h2 := Option.some.inj h
          simp only [Prod.mk.injEq] at h2
          obtain ⟨rfl, rfl, rfl, rfl, rfl, rfl, rfl, rfl, rfl⟩ := h2
          subst cmin
          exact tableOf_min w
        · rw [if_neg cmin] at h
          by_cases cmax : a0 = (⟨#[109, 97, 120]⟩ : ByteArray)
          · rw [if_pos cmax] at h
            have h2 := Option.some.inj h
            simp only [Prod.mk.injEq] at h2
            obtain ⟨rfl, rfl, rfl, rfl, rfl, rfl, rfl, rfl, rfl⟩ := h2
            subst cmax
            exact tableOf_max w
          · rw [if_neg cmax] at h
            cases h

/-! ### impl_AdderCircuit: function 43 -/
mutual
def impl_AdderCircuit.j0 : Nat → Int → Bool → Option (Int × (List (S46)) × List Int × Bool)
  | 0, _, _ => none
  | k + 1, x0, x17 => if x17 = true then (some (0, ([] : List (S46)), ([] : List Int), false)) else (impl_AdderCircuit.l0 k 1 x0 0 (wrap64 (2 * x0)) ([] : List (S46)) ([] : List Int))
def impl_AdderCircuit.l0 : Nat → Int → Int → Int → Int → List (S46) → List Int → Option (Int × (List (S46)) × List Int × Bool)
  | 0, _, _, _, _, _, _ => none
  | k + 1, x5, x22, x23, x103000, x103001, x103002 => if x23 < x22 then ((impl_TableOf.f (⟨#[115, 117, 109]⟩ : ByteArray)).bind fun bt106 => (if x103001.length < 1599289640401 then ((some (x103001 ++ [(⟨(⟨bt106.1, bt106.2.1, bt106.2.2.1, bt106.2.2.2.1, bt106.2.2.2.2.1, bt106.2.2.2.2.2.1, bt106.2.2.2.2.2.2.1, bt106.2.2.2.2.2.2.2.1, bt106.2.2.2.2.2.2.2.2⟩ : S23), wrap64 (3 + (wrap64 (2 * x23))), wrap64 (4 + (wrap64 (2 * x23)))⟩ : S46)] : List (S46))).bind fun y115 => ((impl_TableOf.f (⟨#[99, 97, 114, 114, 121]⟩ : ByteArray)).bind fun bt118 => (if y115.length < 1599289640401 then ((some (y115 ++ [(⟨(⟨bt118.1, bt118.2.1, bt118.2.2.1, bt118.2.2.2.1, bt118.2.2.2.2.1, bt118.2.2.2.2.2.1, bt118.2.2.2.2.2.2.1, bt118.2.2.2.2.2.2.2.1, bt118.2.2.2.2.2.2.2.2⟩ : S23), wrap64 (3 + (wrap64 (2 * x23))), wrap64 (4 + (wrap64 (2 * x23)))⟩ : S46)] : List (S46))).bind fun y127 => ((impl_TableOf.f (⟨#[115, 117, 109]⟩ : ByteArray)).bind fun bt130 => (if y127.length < 1599289640401 then ((some (y127 ++ [(⟨(⟨bt130.1, bt130.2.1, bt130.2.2.1, bt130.2.2.2.1, bt130.2.2.2.2.1, bt130.2.2.2.2.2.1, bt130.2.2.2.2.2.2.1, bt130.2.2.2.2.2.2.2.1, bt130.2.2.2.2.2.2.2.2⟩ : S23), wrap64 (wrap64 (2 + x103000) + (y115.length : Int)), x5⟩ : S46)] : List (S46))).bind fun y139 => (if x103002.length < 17592186044416 then ((impl_TableOf.f (⟨#[99, 97, 114, 114, 121]⟩ : ByteArray)).bind fun bt145 => (if y139.length < 1599289640401 then ((some (y139 ++ [(⟨(⟨bt145.1, bt145.2.1, bt145.2.2.1, bt145.2.2.2.1, bt145.2.2.2.2.1, bt145.2.2.2.2.2.1, bt145.2.2.2.2.2.2.1, bt145.2.2.2.2.2.2.2.1, bt145.2.2.2.2.2.2.2.2⟩ : S23), wrap64 (wrap64 (2 + x103000) + (y115.length : Int)), x5⟩ : S46)] : List (S46))).bind fun y154 => ((impl_TableOf.f (⟨#[97, 110, 121]⟩ : ByteArray)).bind fun bt157 => (if y154.length < 1599289640401 then ((some (y154 ++ [(⟨(⟨bt157.1, bt157.2.1, bt157.2.2.1, bt157.2.2.2.1, bt157.2.2.2.2.1, bt157.2.2.2.2.2.1, bt157.2.2.2.2.2.2.1, bt157.2.2.2.2.2.2.2.1, bt157.2.2.2.2.2.2.2.2⟩ : S23), wrap64 (wrap64 (2 + x103000) + (y127.length : Int)), wrap64 (wrap64 (2 + x103000) + (y154.length : Int))⟩ : S46)] : List (S46))).bind fun y166 => (impl_AdderCircuit.l0 k (wrap64 (wrap64 (2 + x103000) + (y166.length : Int))) x22 (wrap64 (x23 + 1)) x103000 y166 (x103002 ++ [wrap64 (wrap64 (2 + x103000) + (y139.length : Int))]))) else (none)))) else (none))) else (none))) else (none)))) else (none)))) else (none))) else (if x103002.length < 17592186044416 then (some (x103000, x103001, (x103002 ++ [x5]), true)) else (none))
end
def impl_AdderCircuit.f (k : Nat) (a0 : Int) : Option (Int × (List (S46)) × List Int × Bool) := if a0 < 1 then (impl_AdderCircuit.j0 k a0 true) else (impl_AdderCircuit.j0 k a0 (decide (a0 > 4)))
theorem impl_AdderCircuit.mono_l : ∀ k, (∀ y0 y1, LeO (impl_AdderCircuit.j0 k y0 y1) (impl_AdderCircuit.j0 (k + 1) y0 y1)) ∧ (∀ y0 y1 y2 y3 y4 y5, LeO (impl_AdderCircuit.l0 k y0 y1 y2 y3 y4 y5) (impl_AdderCircuit.l0 (k + 1) y0 y1 y2 y3 y4 y5))
  | 0 => ⟨fun _ _ r h => by simp [impl_AdderCircuit.j0] at h, fun _ _ _ _ _ _ r h => by simp [impl_AdderCircuit.l0] at h⟩
  | k + 1 => by
    obtain ⟨ih0, ih1⟩ := impl_AdderCircuit.mono_l k
    refine ⟨?_, ?_⟩
    · intro y0 y1
      unfold impl_AdderCircuit.j0
      repeat' first
      | (with_reducible exact ih0 _ _)
      | (with_reducible exact ih1 _ _ _ _ _ _)
      | (with_reducible exact LeO.refl _)
      | (with_reducible exact LeO.none _)
      | (with_reducible refine LeO.ite ?_ ?_)
      | (with_reducible refine LeO.bind ?_ (fun _ => ?_))
      | exact ih0 _ _
      | exact ih1 _ _ _ _ _ _
      | exact LeO.none _
      | refine LeO.ite ?_ ?_
      | refine LeO.bind ?_ (fun _ => ?_)
    · intro y0 y1 y2 y3 y4 y5
      unfold impl_AdderCircuit.l0
      repeat' first
      | (with_reducible exact ih0 _ _)
      | (with_reducible exact ih1 _ _ _ _ _ _)
      | (with_reducible exact LeO.refl _)
      | (with_reducible exact LeO.none _)
      | (with_reducible refine LeO.ite ?_ ?_)
      | (with_reducible refine LeO.bind ?_ (fun _ => ?_))
      | exact ih0 _ _
      | exact ih1 _ _ _ _ _ _
      | exact LeO.none _
      | refine LeO.ite ?_ ?_
      | refine LeO.bind ?_ (fun _ => ?_)
theorem impl_AdderCircuit.mono : ∀ a0 k, LeO (impl_AdderCircuit.f k a0) (impl_AdderCircuit.f (k + 1) a0) := by
  intro a0 k
  obtain ⟨ih0, ih1⟩ := impl_AdderCircuit.mono_l k
  unfold impl_AdderCircuit.f
  repeat' first
      | (with_reducible exact ih0 _ _)
      | (with_reducible exact ih1 _ _ _ _ _ _)
      | (with_reducible exact LeO.refl _)
      | (with_reducible exact LeO.none _)
      | (with_reducible refine LeO.ite ?_ ?_)
      | (with_reducible refine LeO.bind ?_ (fun _ => ?_))
      | exact ih0 _ _
      | exact ih1 _ _ _ _ _ _
      | exact LeO.none _
      | refine LeO.ite ?_ ?_
      | refine LeO.bind ?_ (fun _ => ?_)
def impl_AdderCircuit.T10 : Bool × List (List Nat × List Nat) := (true, [([], []), ([0], [0]), ([], []), ([], []), ([], []), ([2, 3, 4, 2], [2, 3, 4]), ([5], [5]), ([1, 6, 5], [1, 6]), ([0, 1, 2, 3, 4, 5, 6, 7], []), ([8, 7, 7, 0, 1, 2, 3, 4, 5, 6, 7], [7, 8])])
def impl_AdderCircuit.B10 : List Nat := [0, 1, 0, 0, 0, 28, 60, 127, 255, 511]
theorem impl_AdderCircuit.tab10 : rtab .any (opsOf Try.f43 10) = impl_AdderCircuit.T10 := by kernel_rfl
theorem impl_AdderCircuit.bits10 : waitsOk impl_AdderCircuit.T10.2 impl_AdderCircuit.B10 = true := by kernel_rfl
set_option maxHeartbeats 8000000 in
set_option maxRecDepth 100000 in
theorem impl_AdderCircuit.calls (k : Nat) (a0 : Int) (r1 : Int) (r2 : List (S46)) (r3 : List Int) (r4 : Bool) (w : World) (h : impl_AdderCircuit.f k a0 = some (r1, r2, r3, r4)) :
    Calls Try.prog 43 #[.int .i64 a0] w fun e w' => ∃ v1_ v2_ : Value, e = .returned (.tuple #[.agg #[.int .i64 r1, v1_, v2_], .bool r4]) ∧ Kd.R k46 46 w' w.heap.size (fun _ => True) v1_ r2 ∧ Kd.R (Kd.int .i64) 3 w' w.heap.size (fun _ => True) v2_ r3 ∧ Below w.heap.size w w' := by
  have hu35 := Try.underlying35
  have HB := Aside0.mk (Below.refl w.heap.size w)
  have H : (if a0 < 1 then (impl_AdderCircuit.j0 k a0 true) else (impl_AdderCircuit.j0 k a0 (decide (a0 > 4)))) = some (r1, r2, r3, r4) := h
  clear h
  have HC2 := Aside0.mk H
  clear H
  go_enter Try.func43, Try.ntmps43
  go_upto_region 1 with (first | ((with_reducible refine gate_dst (N := 2) rfl ?_); refine box_event ?hg (N := 2) ?hd (cs := #[.int .i64 0, .slice none 0 0, .slice none 0 0]) (t := 35) ?hr ?_; (case hd => rfl); (case hg => rfl); (case hr => first | (go_simp; done) | (go_simp; rfl)); intro gb101 hg w3 hbox hb; have n0_ := Aside0.mk (below_step (by repeat (first | (with_reducible first | exact HB.out | apply below_alloc | apply pw_below_drewN | apply below_drew1) | exact HB.out)) hb); have n1_ := Aside0.mk (hbox); have n2_ := Aside0.mk ((by rw [hg]; exact (below_size (by repeat (first | (with_reducible first | exact HB.out | apply below_alloc | apply pw_below_drewN | apply below_drew1) | exact HB.out))) : w.heap.size ≤ gb101)); have n3_ := Aside0.mk ((by rw [hg]; exact (below_size (by repeat (first | (with_reducible first | exact HB.out | apply below_alloc | apply pw_below_drewN | apply below_drew1) | exact HB.out))) : w.heap.size ≤ gb101)); clear HB; have HB := n0_; have BK101 := n1_; have GW101 := n2_; have GE101 := n3_; clear n0_ n1_ n2_ n3_; clear hb hbox hg))
  (try simp only [Act.put, List.setIfInBounds_toArray, List.set_cons_zero, List.set_cons_succ])
  go_cut [17] (fun v17 wc => ∃ (kq : Nat) (x17_1 : Bool), v17 = .bool x17_1 ∧ Aside0 (impl_AdderCircuit.j0 kq a0 x17_1 = some (r1, r2, r3, r4)) ∧ Aside0 (kq ≤ k) ∧ Aside0 (wc.heap[gb101]? = some (.cells #[.int .i64 0, (.slice none 0 0), (.slice none 0 0)] 35 (0, 0))) ∧ Aside0 (Below w.heap.size w wc))
  case first =>
    have H := HC2.out
    clear HC2
    by_cases c4 : a0 < 1
    · rw [if_pos c4] at H
      have c4b0 : decide (a0 < 1) = true := decide_eq_true c4
      clear c4
      (first | rw [c4b0] | (simp only [i64_w, i32_w]; rw [c4b0]) | skip)
      have H' := Aside0.mk H
      clear H
      go_wp2
      go_meet
      case rel => exact ⟨_, (true), (by first | rfl | (simp; done) | (simp [*]; done)), H', ⟨by first | omega | exact Nat.le_refl _⟩, ⟨by (with_reducible repeat (first | refine blk_drewN ?_ _ | refine blk_drew ?_ | refine blk_alloc ?_ _)); exact BK101.out⟩, ⟨by repeat (first | (with_reducible first | exact HB.out | apply below_alloc | apply pw_below_drewN | apply below_drew1 | refine below_set ?_ GE101.out) | exact HB.out)⟩⟩
    · rw [if_neg c4] at H
      have c4b0 : decide (a0 < 1) = false := decide_eq_false c4
      clear c4
      (first | rw [c4b0] | (simp only [i64_w, i32_w]; rw [c4b0]) | skip)
      have H' := Aside0.mk H
      clear H
      go_wp2
      go_meet
      case rel => exact ⟨_, (decide (a0 > 4)), (by first | rfl | (simp; done) | (simp [*]; done)), H', ⟨by first | omega | exact Nat.le_refl _⟩, ⟨by (with_reducible repeat (first | refine blk_drewN ?_ _ | refine blk_drew ?_ | refine blk_alloc ?_ _)); exact BK101.out⟩, ⟨by repeat (first | (with_reducible first | exact HB.out | apply below_alloc | apply pw_below_drewN | apply below_drew1 | refine below_set ?_ GE101.out) | exact HB.out)⟩⟩
  case rest =>
    clear HC2
    try clear p2
    try clear c4
    try clear c4b0
    obtain ⟨kq, x17_1, rfl, HA, HJ1, BK101, HB⟩ := hcut
    cases kq with
    | zero => exact absurd HA.out (by simp [impl_AdderCircuit.j0])
    | succ kj1 =>
      have H := HA.out
      clear HA
      simp only [impl_AdderCircuit.j0] at H
      by_cases c5 : x17_1 = true
      · subst c5
        have H1 : (some (0, ([] : List (S46)), ([] : List Int), false)) = some (r1, r2, r3, r4) := by rw [if_pos rfl] at H; exact H
        clear H
        have H := H1
        clear H1
        simp only [Option.some.injEq, Prod.mk.injEq] at H
        obtain ⟨rfl, rfl, rfl, rfl⟩ := H
        have hcz6_0 : wc.cell? ⟨gb101, 0, none⟩ = some (.int .i64 0) := (blk_cell BK101.out 0).trans rfl
        have hcz6_1 : wc.cell? ⟨gb101, 1, none⟩ = some (.slice none 0 0) := (blk_cell BK101.out 1).trans rfl
        have hcz6_2 : wc.cell? ⟨gb101, 2, none⟩ = some (.slice none 0 0) := (blk_cell BK101.out 2).trans rfl
        have hfz6_0 := blk_frozen BK101.out 0
        have hfz6_1 := blk_frozen BK101.out 1
        have hfz6_2 := blk_frozen BK101.out 2
        go_wp2
        refine bodyPost_ret (results_ct rfl _ _ gb101 35 #[.int .i64 0, .slice none 0 0, .slice none 0 0] (0, 0) _ rfl (by (with_reducible repeat (first | refine blk_drewN ?_ _ | refine blk_drew ?_ | refine blk_alloc ?_ _)); refine blk_put (cs := #[.int .i64 0, .slice none 0 0, .slice none 0 0]) ?_ 2 _ rfl; (with_reducible repeat (first | refine blk_drewN ?_ _ | refine blk_drew ?_ | refine blk_alloc ?_ _)); refine blk_put (cs := #[.int .i64 0, .slice none 0 0, .slice none 0 0]) ?_ 1 _ rfl; (with_reducible repeat (first | refine blk_drewN ?_ _ | refine blk_drew ?_ | refine blk_alloc ?_ _)); refine blk_put (cs := #[.int .i64 0, .slice none 0 0, .slice none 0 0]) ?_ 0 _ rfl; (with_reducible repeat (first | refine blk_drewN ?_ _ | refine blk_drew ?_ | refine blk_alloc ?_ _)); exact BK101.out) Try.underlying35 rfl (by kernel_rfl)) rfl ?_
        exact ⟨_, _, by first | rfl | (simp [errW_none, errW_some] <;> rfl) | (simp [*, errW_none, errW_some] <;> rfl), by first | exact Kd.R_nil _ _ _ _ _ | exact Kd.N_nil _ _ _ _ _ | exact Kd.V_nil _ _ _ _ _ | exact Kd.Q_nil _ _ _ _ _ | exact Kd.S_nil _ _ _ _ _, by first | exact Kd.R_nil _ _ _ _ _ | exact Kd.N_nil _ _ _ _ _ | exact Kd.V_nil _ _ _ _ _ | exact Kd.Q_nil _ _ _ _ _ | exact Kd.S_nil _ _ _ _ _, by repeat (first | (with_reducible first | exact HB.out | apply below_alloc | apply pw_below_drewN | apply below_drew1 | refine below_set ?_ GE101.out) | exact HB.out)⟩
      · replace c5 := Bool.eq_false_iff.mpr c5
        subst c5
        have H1 : (impl_AdderCircuit.l0 kj1 1 a0 0 (wrap64 (2 * a0)) ([] : List (S46)) ([] : List Int)) = some (r1, r2, r3, r4) := by rw [if_neg (show ¬ (false = true) by decide)] at H; exact H
        clear H
        have H := H1
        clear H1
        have H' := Aside0.mk H
        clear H
        go_wp2_with (first | ((with_reducible refine gate_dst (N := 4) rfl ?_); refine box_event ?hg (N := 4) ?hd (cs := #[.int .i64 0, .slice none 0 0, .slice none 0 0]) (t := 35) ?hr ?_; (case hd => rfl); (case hg => rfl); (case hr => first | (go_simp; done) | (go_simp; rfl)); intro gb102 hg w7 hbox hb; have n0_ := Aside0.mk (blk_below (g := gb101) (o := .cells #[.int .i64 0, .slice none 0 0, .slice none 0 0] 35 (0, 0)) (by (with_reducible repeat (first | refine blk_drewN ?_ _ | refine blk_drew ?_ | refine blk_alloc ?_ _)); exact BK101.out) hb); have n1_ := Aside0.mk (below_step (by repeat (first | (with_reducible first | exact HB.out | apply below_alloc | apply pw_below_drewN | apply below_drew1 | refine below_set ?_ GE101.out) | exact HB.out)) hb); have n2_ := Aside0.mk (hbox); have n3_ := Aside0.mk ((by rw [hg]; exact (below_size (by repeat (first | (with_reducible first | exact HB.out | apply below_alloc | apply pw_below_drewN | apply below_drew1 | refine below_set ?_ GE101.out) | exact HB.out))) : w.heap.size ≤ gb102)); have n4_ := Aside0.mk ((by rw [hg]; exact (below_size (by repeat (first | (with_reducible first | exact HB.out | apply below_alloc | apply pw_below_drewN | apply below_drew1 | refine below_set ?_ GE101.out) | exact HB.out))) : w.heap.size ≤ gb102)); have n5_ := Aside0.mk ((by rw [hg]; exact Nat.ne_of_lt (blk_lt (g := gb101) (o := .cells #[.int .i64 0, .slice none 0 0, .slice none 0 0] 35 (0, 0)) (by (with_reducible repeat (first | refine blk_drewN ?_ _ | refine blk_drew ?_ | refine blk_alloc ?_ _)); exact BK101.out)) : gb101 ≠ gb102)); have n6_ := Aside0.mk ((by rw [hg]; exact Nat.ne_of_gt (blk_lt (g := gb101) (o := .cells #[.int .i64 0, .slice none 0 0, .slice none 0 0] 35 (0, 0)) (by (with_reducible repeat (first | refine blk_drewN ?_ _ | refine blk_drew ?_ | refine blk_alloc ?_ _)); exact BK101.out)) : gb102 ≠ gb101)); clear BK101; clear HB; have BK101 := n0_; have HB := n1_; have BK102 := n2_; have GW102 := n3_; have GE102 := n4_; have NB101_102 := n5_; have NB102_101 := n6_; clear n0_ n1_ n2_ n3_ n4_ n5_ n6_; clear hb hbox hg; have hnb8 := NB102_101.out; have hnc8 := NB101_102.out; have hcz9_0 : w7.cell? ⟨gb102, 0, none⟩ = some (.int .i64 0) := (blk_cell BK102.out 0).trans rfl; have hcz9_1 : w7.cell? ⟨gb102, 1, none⟩ = some (.slice none 0 0) := (blk_cell BK102.out 1).trans rfl; have hcz9_2 : w7.cell? ⟨gb102, 2, none⟩ = some (.slice none 0 0) := (blk_cell BK102.out 2).trans rfl; have hfz9_0 := blk_frozen BK102.out 0; have hfz9_1 := blk_frozen BK102.out 1; have hfz9_2 := blk_frozen BK102.out 2))
        go_loopg [5, 23] kj1 (fun kq v5 v23 w' => ∃ (x5_2 : Int) (x23_2 : Int) (x103001_2 : List (S46)) (x103002_2 : List Int) (u103001 : Value) (u103002 : Value), v5 = .int .i64 x5_2 ∧ v23 = .int .i64 x23_2 ∧ Aside0 (impl_AdderCircuit.l0 kq x5_2 a0 x23_2 (wrap64 (2 * a0)) x103001_2 x103002_2 = some (r1, r2, r3, r4)) ∧ Aside0 (kq ≤ kj1) ∧ Aside0 (Kd.R k46 46 w' w.heap.size (fun _ => True) u103001 x103001_2) ∧ Aside0 (Kd.R (Kd.int .i64) 3 w' w.heap.size (fun _ => True) u103002 x103002_2) ∧ Aside0 (w'.heap[gb101]? = some (.cells #[.int .i64 0, (.slice none 0 0), (.slice none 0 0)] 35 (0, 0))) ∧ Aside0 (w'.heap[gb102]? = some (.cells #[.int .i64 (wrap64 (2 * a0)), u103001, u103002] 35 (0, 0))) ∧ Aside0 (Below w.heap.size w w'))
        case atStart => exact ⟨(1), (0), (([] : List (S46))), (([] : List Int)), (.slice none 0 0), (.slice none 0 0), (by first | rfl | (simp; done) | (simp [*]; done)), (by first | rfl | (simp; done) | (simp [*]; done)), H', ⟨Nat.le_refl _⟩, ⟨by first | exact Kd.R_nil _ _ _ _ _ | exact Kd.N_nil _ _ _ _ _ | exact Kd.V_nil _ _ _ _ _ | exact Kd.Q_nil _ _ _ _ _ | exact Kd.S_nil _ _ _ _ _⟩, ⟨by first | exact Kd.R_nil _ _ _ _ _ | exact Kd.N_nil _ _ _ _ _ | exact Kd.V_nil _ _ _ _ _ | exact Kd.Q_nil _ _ _ _ _ | exact Kd.S_nil _ _ _ _ _⟩, ⟨by (with_reducible repeat (first | refine blk_drewN ?_ _ | refine blk_drew ?_ | refine blk_alloc ?_ _)); refine blk_far ?_ NB101_102.out _; (with_reducible repeat (first | refine blk_drewN ?_ _ | refine blk_drew ?_ | refine blk_alloc ?_ _)); refine blk_far ?_ NB101_102.out _; (with_reducible repeat (first | refine blk_drewN ?_ _ | refine blk_drew ?_ | refine blk_alloc ?_ _)); refine blk_far ?_ NB101_102.out _; (with_reducible repeat (first | refine blk_drewN ?_ _ | refine blk_drew ?_ | refine blk_alloc ?_ _)); exact BK101.out⟩, ⟨by (with_reducible repeat (first | refine blk_drewN ?_ _ | refine blk_drew ?_ | refine blk_alloc ?_ _)); refine blk_put (cs := #[.int .i64 (wrap64 (2 * a0)), .slice none 0 0, .slice none 0 0]) ?_ 2 _ rfl; (with_reducible repeat (first | refine blk_drewN ?_ _ | refine blk_drew ?_ | refine blk_alloc ?_ _)); refine blk_put (cs := #[.int .i64 (wrap64 (2 * a0)), .slice none 0 0, .slice none 0 0]) ?_ 1 _ rfl; (with_reducible repeat (first | refine blk_drewN ?_ _ | refine blk_drew ?_ | refine blk_alloc ?_ _)); refine blk_put (cs := #[.int .i64 0, .slice none 0 0, .slice none 0 0]) ?_ 0 _ rfl; (with_reducible repeat (first | refine blk_drewN ?_ _ | refine blk_drew ?_ | refine blk_alloc ?_ _)); exact BK102.out⟩, ⟨by repeat (first | (with_reducible first | exact HB.out | apply below_alloc | apply pw_below_drewN | apply below_drew1 | refine below_set ?_ GE101.out | refine below_set ?_ GE102.out) | exact HB.out)⟩⟩
        case round =>
          clear H'
          try clear p2
          try clear c4
          try clear c4b0
          try clear c5
          try clear p6
          try clear c8
          try clear hcz6_0
          try clear hcz6_1
          try clear hcz6_2
          try clear hcz9_0
          try clear hcz9_1
          try clear hcz9_2
          try clear hfz6_0
          try clear hfz6_1
          try clear hfz6_2
          try clear hfz9_0
          try clear hfz9_1
          try clear hfz9_2
          try clear p2
          obtain ⟨x5_2, x23_2, x103001_2, x103002_2, u103001, u103002, rfl, rfl, HA, HK2, HO_103001, HO_103002, BK101, BK102, HB⟩ := hrel
          cases gk with
          | zero => exact absurd HA.out (by simp [impl_AdderCircuit.l0])
          | succ k2 =>
            have H := HA.out
            clear HA
            simp only [impl_AdderCircuit.l0] at H
            by_cases c10 : x23_2 < a0
            · rw [if_pos c10] at H
              have c10b0 : decide (x23_2 < a0) = true := decide_eq_true c10
              clear c10
              replace H := Option.bind_eq_some_iff.mp H
              obtain ⟨⟨t106, t107, t108, t109, t110, t111, t112, t113, t114⟩, A110, H⟩ := H
              replace H : (if x103001_2.length < 1599289640401 then ((some (x103001_2 ++ [(⟨(⟨t106, t107, t108, t109, t110, t111, t112, t113, t114⟩ : S23), wrap64 (3 + (wrap64 (2 * x23_2))), wrap64 (4 + (wrap64 (2 * x23_2)))⟩ : S46)] : List (S46))).bind fun y115 => ((impl_TableOf.f (⟨#[99, 97, 114, 114, 121]⟩ : ByteArray)).bind fun bt118 => (if y115.length < 1599289640401 then ((some (y115 ++ [(⟨(⟨bt118.1, bt118.2.1, bt118.2.2.1, bt118.2.2.2.1, bt118.2.2.2.2.1, bt118.2.2.2.2.2.1, bt118.2.2.2.2.2.2.1, bt118.2.2.2.2.2.2.2.1, bt118.2.2.2.2.2.2.2.2⟩ : S23), wrap64 (3 + (wrap64 (2 * x23_2))), wrap64 (4 + (wrap64 (2 * x23_2)))⟩ : S46)] : List (S46))).bind fun y127 => ((impl_TableOf.f (⟨#[115, 117, 109]⟩ : ByteArray)).bind fun bt130 => (if y127.length < 1599289640401 then ((some (y127 ++ [(⟨(⟨bt130.1, bt130.2.1, bt130.2.2.1, bt130.2.2.2.1, bt130.2.2.2.2.1, bt130.2.2.2.2.2.1, bt130.2.2.2.2.2.2.1, bt130.2.2.2.2.2.2.2.1, bt130.2.2.2.2.2.2.2.2⟩ : S23), wrap64 (wrap64 (2 + (wrap64 (2 * a0))) + (y115.length : Int)), x5_2⟩ : S46)] : List (S46))).bind fun y139 => (if x103002_2.length < 17592186044416 then ((impl_TableOf.f (⟨#[99, 97, 114, 114, 121]⟩ : ByteArray)).bind fun bt145 => (if y139.length < 1599289640401 then ((some (y139 ++ [(⟨(⟨bt145.1, bt145.2.1, bt145.2.2.1, bt145.2.2.2.1, bt145.2.2.2.2.1, bt145.2.2.2.2.2.1, bt145.2.2.2.2.2.2.1, bt145.2.2.2.2.2.2.2.1, bt145.2.2.2.2.2.2.2.2⟩ : S23), wrap64 (wrap64 (2 + (wrap64 (2 * a0))) + (y115.length : Int)), x5_2⟩ : S46)] : List (S46))).bind fun y154 => ((impl_TableOf.f (⟨#[97, 110, 121]⟩ : ByteArray)).bind fun bt157 => (if y154.length < 1599289640401 then ((some (y154 ++ [(⟨(⟨bt157.1, bt157.2.1, bt157.2.2.1, bt157.2.2.2.1, bt157.2.2.2.2.1, bt157.2.2.2.2.2.1, bt157.2.2.2.2.2.2.1, bt157.2.2.2.2.2.2.2.1, bt157.2.2.2.2.2.2.2.2⟩ : S23), wrap64 (wrap64 (2 + (wrap64 (2 * a0))) + (y127.length : Int)), wrap64 (wrap64 (2 + (wrap64 (2 * a0))) + (y154.length : Int))⟩ : S46)] : List (S46))).bind fun y166 => (impl_AdderCircuit.l0 k2 (wrap64 (wrap64 (2 + (wrap64 (2 * a0))) + (y166.length : Int))) a0 (wrap64 (x23_2 + 1)) (wrap64 (2 * a0)) y166 (x103002_2 ++ [wrap64 (wrap64 (2 + (wrap64 (2 * a0))) + (y139.length : Int))]))) else (none)))) else (none))) else (none))) else (none)))) else (none)))) else (none)) = some (r1, r2, r3, r4) := H
              have A11 := Aside0.mk A110
              clear A110
              by_cases c12 : x103001_2.length < 1599289640401
              · rw [if_pos c12] at H
                have LMc12 := Aside0.mk c12
                clear c12
                obtain ⟨y115, hy115⟩ : ∃ y_ : List (S46), y_ = (x103001_2 ++ [(⟨(⟨t106, t107, t108, t109, t110, t111, t112, t113, t114⟩ : S23), wrap64 (3 + (wrap64 (2 * x23_2))), wrap64 (4 + (wrap64 (2 * x23_2)))⟩ : S46)]) := ⟨_, rfl⟩
                replace H : ((impl_TableOf.f (⟨#[99, 97, 114, 114, 121]⟩ : ByteArray)).bind fun bt118 => (if y115.length < 1599289640401 then ((some (y115 ++ [(⟨(⟨bt118.1, bt118.2.1, bt118.2.2.1, bt118.2.2.2.1, bt118.2.2.2.2.1, bt118.2.2.2.2.2.1, bt118.2.2.2.2.2.2.1, bt118.2.2.2.2.2.2.2.1, bt118.2.2.2.2.2.2.2.2⟩ : S23), wrap64 (3 + (wrap64 (2 * x23_2))), wrap64 (4 + (wrap64 (2 * x23_2)))⟩ : S46)] : List (S46))).bind fun y127 => ((impl_TableOf.f (⟨#[115, 117, 109]⟩ : ByteArray)).bind fun bt130 => (if y127.length < 1599289640401 then ((some (y127 ++ [(⟨(⟨bt130.1, bt130.2.1, bt130.2.2.1, bt130.2.2.2.1, bt130.2.2.2.2.1, bt130.2.2.2.2.2.1, bt130.2.2.2.2.2.2.1, bt130.2.2.2.2.2.2.2.1, bt130.2.2.2.2.2.2.2.2⟩ : S23), wrap64 (wrap64 (2 + (wrap64 (2 * a0))) + (y115.length : Int)), x5_2⟩ : S46)] : List (S46))).bind fun y139 => (if x103002_2.length < 17592186044416 then ((impl_TableOf.f (⟨#[99, 97, 114, 114, 121]⟩ : ByteArray)).bind fun bt145 => (if y139.length < 1599289640401 then ((some (y139 ++ [(⟨(⟨bt145.1, bt145.2.1, bt145.2.2.1, bt145.2.2.2.1, bt145.2.2.2.2.1, bt145.2.2.2.2.2.1, bt145.2.2.2.2.2.2.1, bt145.2.2.2.2.2.2.2.1, bt145.2.2.2.2.2.2.2.2⟩ : S23), wrap64 (wrap64 (2 + (wrap64 (2 * a0))) + (y115.length : Int)), x5_2⟩ : S46)] : List (S46))).bind fun y154 => ((impl_TableOf.f (⟨#[97, 110, 121]⟩ : ByteArray)).bind fun bt157 => (if y154.length < 1599289640401 then ((some (y154 ++ [(⟨(⟨bt157.1, bt157.2.1, bt157.2.2.1, bt157.2.2.2.1, bt157.2.2.2.2.1, bt157.2.2.2.2.2.1, bt157.2.2.2.2.2.2.1, bt157.2.2.2.2.2.2.2.1, bt157.2.2.2.2.2.2.2.2⟩ : S23), wrap64 (wrap64 (2 + (wrap64 (2 * a0))) + (y127.length : Int)), wrap64 (wrap64 (2 + (wrap64 (2 * a0))) + (y154.length : Int))⟩ : S46)] : List (S46))).bind fun y166 => (impl_AdderCircuit.l0 k2 (wrap64 (wrap64 (2 + (wrap64 (2 * a0))) + (y166.length : Int))) a0 (wrap64 (x23_2 + 1)) (wrap64 (2 * a0)) y166 (x103002_2 ++ [wrap64 (wrap64 (2 + (wrap64 (2 * a0))) + (y139.length : Int))]))) else (none)))) else (none))) else (none))) else (none)))) else (none))) = some (r1, r2, r3, r4) := by first | (rw [hy115]; with_reducible exact H) | (have H2_ := (Option.bind_some _ _).symm.trans H; rw [hy115]; with_reducible exact H2_) | (have H2_ := (Option.bind_some _ _).symm.trans H; with_reducible exact H2_) | with_reducible exact H | (rw [hy115]; exact H) | exact H
                have Ny115 := Aside0.mk hy115
                clear hy115
                replace H := Option.bind_eq_some_iff.mp H
                obtain ⟨⟨t118, t119, t120, t121, t122, t123, t124, t125, t126⟩, A130, H⟩ := H
                replace H : (if y115.length < 1599289640401 then ((some (y115 ++ [(⟨(⟨t118, t119, t120, t121, t122, t123, t124, t125, t126⟩ : S23), wrap64 (3 + (wrap64 (2 * x23_2))), wrap64 (4 + (wrap64 (2 * x23_2)))⟩ : S46)] : List (S46))).bind fun y127 => ((impl_TableOf.f (⟨#[115, 117, 109]⟩ : ByteArray)).bind fun bt130 => (if y127.length < 1599289640401 then ((some (y127 ++ [(⟨(⟨bt130.1, bt130.2.1, bt130.2.2.1, bt130.2.2.2.1, bt130.2.2.2.2.1, bt130.2.2.2.2.2.1, bt130.2.2.2.2.2.2.1, bt130.2.2.2.2.2.2.2.1, bt130.2.2.2.2.2.2.2.2⟩ : S23), wrap64 (wrap64 (2 + (wrap64 (2 * a0))) + (y115.length : Int)), x5_2⟩ : S46)] : List (S46))).bind fun y139 => (if x103002_2.length < 17592186044416 then ((impl_TableOf.f (⟨#[99, 97, 114, 114, 121]⟩ : ByteArray)).bind fun bt145 => (if y139.length < 1599289640401 then ((some (y139 ++ [(⟨(⟨bt145.1, bt145.2.1, bt145.2.2.1, bt145.2.2.2.1, bt145.2.2.2.2.1, bt145.2.2.2.2.2.1, bt145.2.2.2.2.2.2.1, bt145.2.2.2.2.2.2.2.1, bt145.2.2.2.2.2.2.2.2⟩ : S23), wrap64 (wrap64 (2 + (wrap64 (2 * a0))) + (y115.length : Int)), x5_2⟩ : S46)] : List (S46))).bind fun y154 => ((impl_TableOf.f (⟨#[97, 110, 121]⟩ : ByteArray)).bind fun bt157 => (if y154.length < 1599289640401 then ((some (y154 ++ [(⟨(⟨bt157.1, bt157.2.1, bt157.2.2.1, bt157.2.2.2.1, bt157.2.2.2.2.1, bt157.2.2.2.2.2.1, bt157.2.2.2.2.2.2.1, bt157.2.2.2.2.2.2.2.1, bt157.2.2.2.2.2.2.2.2⟩ : S23), wrap64 (wrap64 (2 + (wrap64 (2 * a0))) + (y127.length : Int)), wrap64 (wrap64 (2 + (wrap64 (2 * a0))) + (y154.length : Int))⟩ : S46)] : List (S46))).bind fun y166 => (impl_AdderCircuit.l0 k2 (wrap64 (wrap64 (2 + (wrap64 (2 * a0))) + (y166.length : Int))) a0 (wrap64 (x23_2 + 1)) (wrap64 (2 * a0)) y166 (x103002_2 ++ [wrap64 (wrap64 (2 + (wrap64 (2 * a0))) + (y139.length : Int))]))) else (none)))) else (none))) else (none))) else (none)))) else (none)) = some (r1, r2, r3, r4) := H
                have A13 := Aside0.mk A130
                clear A130
                by_cases c14 : y115.length < 1599289640401
                · rw [if_pos c14] at H
                  have LMc14 := Aside0.mk c14
                  clear c14
                  obtain ⟨y127, hy127⟩ : ∃ y_ : List (S46), y_ = (y115 ++ [(⟨(⟨t118, t119, t120, t121, t122, t123, t124, t125, t126⟩ : S23), wrap64 (3 + (wrap64 (2 * x23_2))), wrap64 (4 + (wrap64 (2 * x23_2)))⟩ : S46)]) := ⟨_, rfl⟩
                  replace H : ((impl_TableOf.f (⟨#[115, 117, 109]⟩ : ByteArray)).bind fun bt130 => (if y127.length < 1599289640401 then ((some (y127 ++ [(⟨(⟨bt130.1, bt130.2.1, bt130.2.2.1, bt130.2.2.2.1, bt130.2.2.2.2.1, bt130.2.2.2.2.2.1, bt130.2.2.2.2.2.2.1, bt130.2.2.2.2.2.2.2.1, bt130.2.2.2.2.2.2.2.2⟩ : S23), wrap64 (wrap64 (2 + (wrap64 (2 * a0))) + (y115.length : Int)), x5_2⟩ : S46)] : List (S46))).bind fun y139 => (if x103002_2.length < 17592186044416 then ((impl_TableOf.f (⟨#[99, 97, 114, 114, 121]⟩ : ByteArray)).bind fun bt145 => (if y139.length < 1599289640401 then ((some (y139 ++ [(⟨(⟨bt145.1, bt145.2.1, bt145.2.2.1, bt145.2.2.2.1, bt145.2.2.2.2.1, bt145.2.2.2.2.2.1, bt145.2.2.2.2.2.2.1, bt145.2.2.2.2.2.2.2.1, bt145.2.2.2.2.2.2.2.2⟩ : S23), wrap64 (wrap64 (2 + (wrap64 (2 * a0))) + (y115.length : Int)), x5_2⟩ : S46)] : List (S46))).bind fun y154 => ((impl_TableOf.f (⟨#[97, 110, 121]⟩ : ByteArray)).bind fun bt157 => (if y154.length < 1599289640401 then ((some (y154 ++ [(⟨(⟨bt157.1, bt157.2.1, bt157.2.2.1, bt157.2.2.2.1, bt157.2.2.2.2.1, bt157.2.2.2.2.2.1, bt157.2.2.2.2.2.2.1, bt157.2.2.2.2.2.2.2.1, bt157.2.2.2.2.2.2.2.2⟩ : S23), wrap64 (wrap64 (2 + (wrap64 (2 * a0))) + (y127.length : Int)), wrap64 (wrap64 (2 + (wrap64 (2 * a0))) + (y154.length : Int))⟩ : S46)] : List (S46))).bind fun y166 => (impl_AdderCircuit.l0 k2 (wrap64 (wrap64 (2 + (wrap64 (2 * a0))) + (y166.length : Int))) a0 (wrap64 (x23_2 + 1)) (wrap64 (2 * a0)) y166 (x103002_2 ++ [wrap64 (wrap64 (2 + (wrap64 (2 * a0))) + (y139.length : Int))]))) else (none)))) else (none))) else (none))) else (none))) = some (r1, r2, r3, r4) := by first | (rw [hy127]; with_reducible exact H) | (have H2_ := (Option.bind_some _ _).symm.trans H; rw [hy127]; with_reducible exact H2_) | (have H2_ := (Option.bind_some _ _).symm.trans H; with_reducible exact H2_) | with_reducible exact H | (rw [hy127]; exact H) | exact H
                  have Ny127 := Aside0.mk hy127
                  clear hy127
                  replace H := Option.bind_eq_some_iff.mp H
                  obtain ⟨⟨t130, t131, t132, t133, t134, t135, t136, t137, t138⟩, A150, H⟩ := H
                  replace H : (if y127.length < 1599289640401 then ((some (y127 ++ [(⟨(⟨t130, t131, t132, t133, t134, t135, t136, t137, t138⟩ : S23), wrap64 (wrap64 (2 + (wrap64 (2 * a0))) + (y115.length : Int)), x5_2⟩ : S46)] : List (S46))).bind fun y139 => (if x103002_2.length < 17592186044416 then ((impl_TableOf.f (⟨#[99, 97, 114, 114, 121]⟩ : ByteArray)).bind fun bt145 => (if y139.length < 1599289640401 then ((some (y139 ++ [(⟨(⟨bt145.1, bt145.2.1, bt145.2.2.1, bt145.2.2.2.1, bt145.2.2.2.2.1, bt145.2.2.2.2.2.1, bt145.2.2.2.2.2.2.1, bt145.2.2.2.2.2.2.2.1, bt145.2.2.2.2.2.2.2.2⟩ : S23), wrap64 (wrap64 (2 + (wrap64 (2 * a0))) + (y115.length : Int)), x5_2⟩ : S46)] : List (S46))).bind fun y154 => ((impl_TableOf.f (⟨#[97, 110, 121]⟩ : ByteArray)).bind fun bt157 => (if y154.length < 1599289640401 then ((some (y154 ++ [(⟨(⟨bt157.1, bt157.2.1, bt157.2.2.1, bt157.2.2.2.1, bt157.2.2.2.2.1, bt157.2.2.2.2.2.1, bt157.2.2.2.2.2.2.1, bt157.2.2.2.2.2.2.2.1, bt157.2.2.2.2.2.2.2.2⟩ : S23), wrap64 (wrap64 (2 + (wrap64 (2 * a0))) + (y127.length : Int)), wrap64 (wrap64 (2 + (wrap64 (2 * a0))) + (y154.length : Int))⟩ : S46)] : List (S46))).bind fun y166 => (impl_AdderCircuit.l0 k2 (wrap64 (wrap64 (2 + (wrap64 (2 * a0))) + (y166.length : Int))) a0 (wrap64 (x23_2 + 1)) (wrap64 (2 * a0)) y166 (x103002_2 ++ [wrap64 (wrap64 (2 + (wrap64 (2 * a0))) + (y139.length : Int))]))) else (none)))) else (none))) else (none))) else (none)) = some (r1, r2, r3, r4) := H
                  have A15 := Aside0.mk A150
                  clear A150
                  by_cases c16 : y127.length < 1599289640401
                  · rw [if_pos c16] at H
                    have LMc16 := Aside0.mk c16
                    clear c16
                    obtain ⟨y139, hy139⟩ : ∃ y_ : List (S46), y_ = (y127 ++ [(⟨(⟨t130, t131, t132, t133, t134, t135, t136, t137, t138⟩ : S23), wrap64 (wrap64 (2 + (wrap64 (2 * a0))) + (y115.length : Int)), x5_2⟩ : S46)]) := ⟨_, rfl⟩
                    replace H : (if x103002_2.length < 17592186044416 then ((impl_TableOf.f (⟨#[99, 97, 114, 114, 121]⟩ : ByteArray)).bind fun bt145 => (if y139.length < 1599289640401 then ((some (y139 ++ [(⟨(⟨bt145.1, bt145.2.1, bt145.2.2.1, bt145.2.2.2.1, bt145.2.2.2.2.1, bt145.2.2.2.2.2.1, bt145.2.2.2.2.2.2.1, bt145.2.2.2.2.2.2.2.1, bt145.2.2.2.2.2.2.2.2⟩ : S23), wrap64 (wrap64 (2 + (wrap64 (2 * a0))) + (y115.length : Int)), x5_2⟩ : S46)] : List (S46))).bind fun y154 => ((impl_TableOf.f (⟨#[97, 110, 121]⟩ : ByteArray)).bind fun bt157 => (if y154.length < 1599289640401 then ((some (y154 ++ [(⟨(⟨bt157.1, bt157.2.1, bt157.2.2.1, bt157.2.2.2.1, bt157.2.2.2.2.1, bt157.2.2.2.2.2.1, bt157.2.2.2.2.2.2.1, bt157.2.2.2.2.2.2.2.1, bt157.2.2.2.2.2.2.2.2⟩ : S23), wrap64 (wrap64 (2 + (wrap64 (2 * a0))) + (y127.length : Int)), wrap64 (wrap64 (2 + (wrap64 (2 * a0))) + (y154.length : Int))⟩ : S46)] : List (S46))).bind fun y166 => (impl_AdderCircuit.l0 k2 (wrap64 (wrap64 (2 + (wrap64 (2 * a0))) + (y166.length : Int))) a0 (wrap64 (x23_2 + 1)) (wrap64 (2 * a0)) y166 (x103002_2 ++ [wrap64 (wrap64 (2 + (wrap64 (2 * a0))) + (y139.length : Int))]))) else (none)))) else (none))) else (none)) = some (r1, r2, r3, r4) := by first | (rw [hy139]; with_reducible exact H) | (have H2_ := (Option.bind_some _ _).symm.trans H; rw [hy139]; with_reducible exact H2_) | (have H2_ := (Option.bind_some _ _).symm.trans H; with_reducible exact H2_) | with_reducible exact H | (rw [hy139]; exact H) | exact H
                    have Ny139 := Aside0.mk hy139
                    clear hy139
                    by_cases c17 : x103002_2.length < 17592186044416
                    · rw [if_pos c17] at H
                      have LMc17 := Aside0.mk c17
                      clear c17
                      obtain ⟨y142, hy142⟩ : ∃ y_ : List Int, y_ = (x103002_2 ++ [wrap64 (wrap64 (2 + (wrap64 (2 * a0))) + (y139.length : Int))]) := ⟨_, rfl⟩
                      replace H : ((impl_TableOf.f (⟨#[99, 97, 114, 114, 121]⟩ : ByteArray)).bind fun bt145 => (if y139.length < 1599289640401 then ((some (y139 ++ [(⟨(⟨bt145.1, bt145.2.1, bt145.2.2.1, bt145.2.2.2.1, bt145.2.2.2.2.1, bt145.2.2.2.2.2.1, bt145.2.2.2.2.2.2.1, bt145.2.2.2.2.2.2.2.1, bt145.2.2.2.2.2.2.2.2⟩ : S23), wrap64 (wrap64 (2 + (wrap64 (2 * a0))) + (y115.length : Int)), x5_2⟩ : S46)] : List (S46))).bind fun y154 => ((impl_TableOf.f (⟨#[97, 110, 121]⟩ : ByteArray)).bind fun bt157 => (if y154.length < 1599289640401 then ((some (y154 ++ [(⟨(⟨bt157.1, bt157.2.1, bt157.2.2.1, bt157.2.2.2.1, bt157.2.2.2.2.1, bt157.2.2.2.2.2.1, bt157.2.2.2.2.2.2.1, bt157.2.2.2.2.2.2.2.1, bt157.2.2.2.2.2.2.2.2⟩ : S23), wrap64 (wrap64 (2 + (wrap64 (2 * a0))) + (y127.length : Int)), wrap64 (wrap64 (2 + (wrap64 (2 * a0))) + (y154.length : Int))⟩ : S46)] : List (S46))).bind fun y166 => (impl_AdderCircuit.l0 k2 (wrap64 (wrap64 (2 + (wrap64 (2 * a0))) + (y166.length : Int))) a0 (wrap64 (x23_2 + 1)) (wrap64 (2 * a0)) y166 y142)) else (none)))) else (none))) = some (r1, r2, r3, r4) := by first | (rw [hy142]; with_reducible exact H) | (have H2_ := (Option.bind_some _ _).symm.trans H; rw [hy142]; with_reducible exact H2_) | (have H2_ := (Option.bind_some _ _).symm.trans H; with_reducible exact H2_) | with_reducible exact H | (rw [hy142]; exact H) | exact H
                      have Ny142 := Aside0.mk hy142
                      clear hy142
                      replace H := Option.bind_eq_some_iff.mp H
                      obtain ⟨⟨t145, t146, t147, t148, t149, t150, t151, t152, t153⟩, A180, H⟩ := H
                      replace H : (if y139.length < 1599289640401 then ((some (y139 ++ [(⟨(⟨t145, t146, t147, t148, t149, t150, t151, t152, t153⟩ : S23), wrap64 (wrap64 (2 + (wrap64 (2 * a0))) + (y115.length : Int)), x5_2⟩ : S46)] : List (S46))).bind fun y154 => ((impl_TableOf.f (⟨#[97, 110, 121]⟩ : ByteArray)).bind fun bt157 => (if y154.length < 1599289640401 then ((some (y154 ++ [(⟨(⟨bt157.1, bt157.2.1, bt157.2.2.1, bt157.2.2.2.1, bt157.2.2.2.2.1, bt157.2.2.2.2.2.1, bt157.2.2.2.2.2.2.1, bt157.2.2.2.2.2.2.2.1, bt157.2.2.2.2.2.2.2.2⟩ : S23), wrap64 (wrap64 (2 + (wrap64 (2 * a0))) + (y127.length : Int)), wrap64 (wrap64 (2 + (wrap64 (2 * a0))) + (y154.length : Int))⟩ : S46)] : List (S46))).bind fun y166 => (impl_AdderCircuit.l0 k2 (wrap64 (wrap64 (2 + (wrap64 (2 * a0))) + (y166.length : Int))) a0 (wrap64 (x23_2 + 1)) (wrap64 (2 * a0)) y166 y142)) else (none)))) else (none)) = some (r1, r2, r3, r4) := H
                      have A18 := Aside0.mk A180
                      clear A180
                      by_cases c19 : y139.length < 1599289640401
                      · rw [if_pos c19] at H
                        have LMc19 := Aside0.mk c19
                        clear c19
                        obtain ⟨y154, hy154⟩ : ∃ y_ : List (S46), y_ = (y139 ++ [(⟨(⟨t145, t146, t147, t148, t149, t150, t151, t152, t153⟩ : S23), wrap64 (wrap64 (2 + (wrap64 (2 * a0))) + (y115.length : Int)), x5_2⟩ : S46)]) := ⟨_, rfl⟩
                        replace H : ((impl_TableOf.f (⟨#[97, 110, 121]⟩ : ByteArray)).bind fun bt157 => (if y154.length < 1599289640401 then ((some (y154 ++ [(⟨(⟨bt157.1, bt157.2.1, bt157.2.2.1, bt157.2.2.2.1, bt157.2.2.2.2.1, bt157.2.2.2.2.2.1, bt157.2.2.2.2.2.2.1, bt157.2.2.2.2.2.2.2.1, bt157.2.2.2.2.2.2.2.2⟩ : S23), wrap64 (wrap64 (2 + (wrap64 (2 * a0))) + (y127.length : Int)), wrap64 (wrap64 (2 + (wrap64 (2 * a0))) + (y154.length : Int))⟩ : S46)] : List (S46))).bind fun y166 => (impl_AdderCircuit.l0 k2 (wrap64 (wrap64 (2 + (wrap64 (2 * a0))) + (y166.length : Int))) a0 (wrap64 (x23_2 + 1)) (wrap64 (2 * a0)) y166 y142)) else (none))) = some (r1, r2, r3, r4) := by first | (rw [hy154]; with_reducible exact H) | (have H2_ := (Option.bind_some _ _).symm.trans H; rw [hy154]; with_reducible exact H2_) | (have H2_ := (Option.bind_some _ _).symm.trans H; with_reducible exact H2_) | with_reducible exact H | (rw [hy154]; exact H) | exact H
                        have Ny154 := Aside0.mk hy154
                        clear hy154
                        replace H := Option.bind_eq_some_iff.mp H
                        obtain ⟨⟨t157, t158, t159, t160, t161, t162, t163, t164, t165⟩, A200, H⟩ := H
                        replace H : (if y154.length < 1599289640401 then ((some (y154 ++ [(⟨(⟨t157, t158, t159, t160, t161, t162, t163, t164, t165⟩ : S23), wrap64 (wrap64 (2 + (wrap64 (2 * a0))) + (y127.length : Int)), wrap64 (wrap64 (2 + (wrap64 (2 * a0))) + (y154.length : Int))⟩ : S46)] : List (S46))).bind fun y166 => (impl_AdderCircuit.l0 k2 (wrap64 (wrap64 (2 + (wrap64 (2 * a0))) + (y166.length : Int))) a0 (wrap64 (x23_2 + 1)) (wrap64 (2 * a0)) y166 y142)) else (none)) = some (r1, r2, r3, r4) := H
                        have A20 := Aside0.mk A200
                        clear A200
                        by_cases c21 : y154.length < 1599289640401
                        · rw [if_pos c21] at H
                          have LMc21 := Aside0.mk c21
                          clear c21
                          obtain ⟨y166, hy166⟩ : ∃ y_ : List (S46), y_ = (y154 ++ [(⟨(⟨t157, t158, t159, t160, t161, t162, t163, t164, t165⟩ : S23), wrap64 (wrap64 (2 + (wrap64 (2 * a0))) + (y127.length : Int)), wrap64 (wrap64 (2 + (wrap64 (2 * a0))) + (y154.length : Int))⟩ : S46)]) := ⟨_, rfl⟩
                          replace H : (impl_AdderCircuit.l0 k2 (wrap64 (wrap64 (2 + (wrap64 (2 * a0))) + (y166.length : Int))) a0 (wrap64 (x23_2 + 1)) (wrap64 (2 * a0)) y166 y142) = some (r1, r2, r3, r4) := by first | (rw [hy166]; with_reducible exact H) | (have H2_ := (Option.bind_some _ _).symm.trans H; rw [hy166]; with_reducible exact H2_) | (have H2_ := (Option.bind_some _ _).symm.trans H; with_reducible exact H2_) | with_reducible exact H | (rw [hy166]; exact H) | exact H
                          have Ny166 := Aside0.mk hy166
                          clear hy166
                          have H' := Aside0.mk H
                          clear H
                          try go_wp2_with (first | ((with_reducible refine gate_callee (f := 78) rfl ?_); refine goesL_ (some 32) rfl rfl Try.func78 (by kernel_rfl) rfl #[.string (⟨#[115, 117, 109]⟩ : ByteArray)] rfl (by (try simp only [List.map_toArray, List.map_cons, List.map_nil]); first | done | rfl | (simp only [List.length_drop, List.length_take]; rfl)) ?_; (with_reducible refine (impl_TableOf.calls (⟨#[115, 117, 109]⟩ : ByteArray) t106 t107 t108 t109 t110 t111 t112 t113 t114 _ A11.out).mono ?_); rintro e w22 ⟨rfl, hb⟩; refine ⟨_, rfl, ?_⟩; have n0_ := Aside0.mk (Kd.R_below (by (with_reducible repeat (first | apply Kd.R_alloc | apply Kd.R_drewN | apply Kd.R_drew)); exact HO_103001.out) hb); have n1_ := Aside0.mk (Kd.R_below (by (with_reducible repeat (first | apply Kd.R_alloc | apply Kd.R_drewN | apply Kd.R_drew)); exact HO_103002.out) hb); have n2_ := Aside0.mk (blk_below (g := gb101) (o := .cells #[.int .i64 0, .slice none 0 0, .slice none 0 0] 35 (0, 0)) (by (with_reducible repeat (first | refine blk_drewN ?_ _ | refine blk_drew ?_ | refine blk_alloc ?_ _)); exact BK101.out) hb); have n3_ := Aside0.mk (blk_below (g := gb102) (o := .cells #[.int .i64 (wrap64 (2 * a0)), u103001, u103002] 35 (0, 0)) (by (with_reducible repeat (first | refine blk_drewN ?_ _ | refine blk_drew ?_ | refine blk_alloc ?_ _)); exact BK102.out) hb); have n4_ := Aside0.mk (below_step (by repeat (first | (with_reducible first | exact HB.out | apply below_alloc | apply pw_below_drewN | apply below_drew1 | refine below_set ?_ GE101.out | refine below_set ?_ GE102.out) | exact HB.out)) hb); clear HO_103001; clear HO_103002; clear BK101; clear BK102; clear HB; have HO_103001 := n0_; have HO_103002 := n1_; have BK101 := n2_; have BK102 := n3_; have HB := n4_; clear n0_ n1_ n2_ n3_ n4_; (try clear hb); (try clear hb2); (try clear hk); (try clear hi); clear A11) | ((with_reducible refine gate_callee (f := 69) rfl ?_); refine goesL_ (some 35) rfl rfl Try.func69 (by kernel_rfl) rfl #[.pointer (some ⟨gb102, 0, none⟩), .agg #[.int .i64 t106, .int .i64 t107, .int .i64 t108, .int .i64 t109, .int .i64 t110, .int .i64 t111, .int .i64 t112, .int .i64 t113, .int .i64 t114], .int .i64 (wrap64 (3 + (wrap64 (2 * x23_2)))), .int .i64 (wrap64 (4 + (wrap64 (2 * x23_2))))] rfl (by (try simp only [List.map_toArray, List.map_cons, List.map_nil]); first | done | rfl) ?_; (with_reducible refine (impl_Circuit_put.row gb102 (wrap64 (2 * a0)) u103001 u103002 x103001_2 y115 t106 t107 t108 t109 t110 t111 t112 t113 t114 (wrap64 (3 + (wrap64 (2 * x23_2)))) (wrap64 (4 + (wrap64 (2 * x23_2)))) w.heap.size (fun _ => True) w _ Ny115.out ?side1 ?side3 ?side4 ?side2 ?side5 ?side6).mono ?_); (case side1 => exact (by (with_reducible repeat (first | refine blk_drewN ?_ _ | refine blk_drew ?_ | refine blk_alloc ?_ _)); exact BK102.out)); (case side2 => exact (by repeat (first | (with_reducible first | exact HB.out | apply below_alloc | apply pw_below_drewN | apply below_drew1 | refine below_set ?_ GE101.out | refine below_set ?_ GE102.out) | exact HB.out))); (case side3 => exact (fun _ _ => trivial)); (case side4 => exact (by (with_reducible repeat (first | apply Kd.R_alloc | apply Kd.R_drewN | apply Kd.R_drew)); exact HO_103001.out)); (case side5 => exact (below_size (by repeat (first | (with_reducible first | exact HB.out | apply below_alloc | apply pw_below_drewN | apply below_drew1 | refine below_set ?_ GE101.out | refine below_set ?_ GE102.out) | exact HB.out)))); (case side6 => have := LMc12.out; omega); rintro e w_ ⟨v116, w23, rfl, rfl, ho, hb, hg, hat⟩; refine ⟨_, rfl, ?_⟩; have n0_ := Aside0.mk (Kd.R_over' (by (with_reducible repeat (first | apply Kd.R_alloc | apply Kd.R_drewN | apply Kd.R_drew)); exact HO_103002.out) (Kd.R_typed (by (with_reducible repeat (first | apply Kd.R_alloc | apply Kd.R_drewN | apply Kd.R_drew)); exact HO_103001.out)) (by decide) hg); have n1_ := Aside0.mk (blk_grown (g := gb101) (o := .cells #[.int .i64 0, .slice none 0 0, .slice none 0 0] 35 (0, 0)) (by (with_reducible repeat (first | refine blk_drewN ?_ _ | refine blk_drew ?_ | refine blk_alloc ?_ _)); exact BK101.out) hg (Kd.R_ne HO_103001.out BK101.out (by decide))); have n2_ := Aside0.mk (blk_grown (g := gb102) (o := .cells #[.int .i64 (wrap64 (2 * a0)), u103001, u103002] 35 (0, 0)) (by (with_reducible repeat (first | refine blk_drewN ?_ _ | refine blk_drew ?_ | refine blk_alloc ?_ _)); exact BK102.out) hg (Kd.R_ne HO_103001.out BK102.out (by decide))); have n3_ := Aside0.mk (hb); have n4_ := Aside0.mk (ho); clear HO_103002; clear BK101; clear BK102; clear HB; clear HO_103001; have HO_103002 := n0_; have BK101 := n1_; have BK102 := n2_; have HB := n3_; have HO117 := n4_; clear n0_ n1_ n2_ n3_ n4_; clear ho hb hg hat; have n0_ : Aside0 (Kd.R (Kd.int .i64) 3 (w23.setCell ⟨gb102, 1, none⟩ (v116)) w.heap.size (fun _ => True) u103002 x103002_2) := ⟨by (with_reducible repeat (first | apply Kd.R_alloc | apply Kd.R_drewN | apply Kd.R_drew)); exact Kd.R_mono (Kd.R_far (p := ⟨gb102, 1, none⟩) (Kd.R_types HO_103002.out BK102.out (by decide)) (fun _ hk => hk.2) (v116)) (fun _ hk => trivial)⟩; have n1_ : Aside0 (Kd.R k46 46 (w23.setCell ⟨gb102, 1, none⟩ (v116)) w.heap.size (fun _ => True) v116 y115) := ⟨by (with_reducible repeat (first | apply Kd.R_alloc | apply Kd.R_drewN | apply Kd.R_drew)); exact Kd.R_mono (Kd.R_far (p := ⟨gb102, 1, none⟩) (Kd.R_types HO117.out BK102.out (by decide)) (fun _ hk => hk.2) (v116)) (fun _ hk => trivial)⟩; have n2_ : Aside0 ((w23.setCell ⟨gb102, 1, none⟩ (v116)).heap[gb101]? = some (.cells #[.int .i64 0, .slice none 0 0, .slice none 0 0] 35 (0, 0))) := ⟨by (with_reducible repeat (first | refine blk_drewN ?_ _ | refine blk_drew ?_ | refine blk_alloc ?_ _)); refine blk_far ?_ NB101_102.out _; (with_reducible repeat (first | refine blk_drewN ?_ _ | refine blk_drew ?_ | refine blk_alloc ?_ _)); exact BK101.out⟩; have n3_ : Aside0 ((w23.setCell ⟨gb102, 1, none⟩ (v116)).heap[gb102]? = some (.cells #[.int .i64 (wrap64 (2 * a0)), v116, u103002] 35 (0, 0))) := ⟨by (with_reducible repeat (first | refine blk_drewN ?_ _ | refine blk_drew ?_ | refine blk_alloc ?_ _)); refine blk_put (cs := #[.int .i64 (wrap64 (2 * a0)), u103001, u103002]) ?_ 1 _ rfl; (with_reducible repeat (first | refine blk_drewN ?_ _ | refine blk_drew ?_ | refine blk_alloc ?_ _)); exact BK102.out⟩; have n4_ : Aside0 (Below w.heap.size w (w23.setCell ⟨gb102, 1, none⟩ (v116))) := ⟨by repeat (first | (with_reducible first | exact HB.out | apply below_alloc | apply pw_below_drewN | apply below_drew1 | refine below_set ?_ GE101.out | refine below_set ?_ GE102.out) | exact HB.out)⟩; (try clear HO_103002); (try clear HO117); (try clear BK101); (try clear BK102); (try clear HB); generalize (w23.setCell ⟨gb102, 1, none⟩ (v116)) = w24 at n0_ n1_ n2_ n3_ n4_ ⊢; have HO_103002 := n0_; have HO117 := n1_; have BK101 := n2_; have BK102 := n3_; have HB := n4_; clear n0_ n1_ n2_ n3_ n4_) | ((with_reducible refine gate_callee (f := 78) rfl ?_); refine goesL_ (some 36) rfl rfl Try.func78 (by kernel_rfl) rfl #[.string (⟨#[99, 97, 114, 114, 121]⟩ : ByteArray)] rfl (by (try simp only [List.map_toArray, List.map_cons, List.map_nil]); first | done | rfl | (simp only [List.length_drop, List.length_take]; rfl)) ?_; (with_reducible refine (impl_TableOf.calls (⟨#[99, 97, 114, 114, 121]⟩ : ByteArray) t118 t119 t120 t121 t122 t123 t124 t125 t126 _ A13.out).mono ?_); rintro e w25 ⟨rfl, hb⟩; refine ⟨_, rfl, ?_⟩; have n0_ := Aside0.mk (Kd.R_below (by (with_reducible repeat (first | apply Kd.R_alloc | apply Kd.R_drewN | apply Kd.R_drew)); exact HO_103002.out) hb); have n1_ := Aside0.mk (Kd.R_below (by (with_reducible repeat (first | apply Kd.R_alloc | apply Kd.R_drewN | apply Kd.R_drew)); exact HO117.out) hb); have n2_ := Aside0.mk (blk_below (g := gb101) (o := .cells #[.int .i64 0, .slice none 0 0, .slice none 0 0] 35 (0, 0)) (by (with_reducible repeat (first | refine blk_drewN ?_ _ | refine blk_drew ?_ | refine blk_alloc ?_ _)); exact BK101.out) hb); have n3_ := Aside0.mk (blk_below (g := gb102) (o := .cells #[.int .i64 (wrap64 (2 * a0)), v116, u103002] 35 (0, 0)) (by (with_reducible repeat (first | refine blk_drewN ?_ _ | refine blk_drew ?_ | refine blk_alloc ?_ _)); exact BK102.out) hb); have n4_ := Aside0.mk (below_step (by repeat (first | (with_reducible first | exact HB.out | apply below_alloc | apply pw_below_drewN | apply below_drew1 | refine below_set ?_ GE101.out | refine below_set ?_ GE102.out) | exact HB.out)) hb); clear HO_103002; clear HO117; clear BK101; clear BK102; clear HB; have HO_103002 := n0_; have HO117 := n1_; have BK101 := n2_; have BK102 := n3_; have HB := n4_; clear n0_ n1_ n2_ n3_ n4_; (try clear hb); (try clear hb2); (try clear hk); (try clear hi); clear A13) | ((with_reducible refine gate_callee (f := 69) rfl ?_); refine goesL_ (some 39) rfl rfl Try.func69 (by kernel_rfl) rfl #[.pointer (some ⟨gb102, 0, none⟩), .agg #[.int .i64 t118, .int .i64 t119, .int .i64 t120, .int .i64 t121, .int .i64 t122, .int .i64 t123, .int .i64 t124, .int .i64 t125, .int .i64 t126], .int .i64 (wrap64 (3 + (wrap64 (2 * x23_2)))), .int .i64 (wrap64 (4 + (wrap64 (2 * x23_2))))] rfl (by (try simp only [List.map_toArray, List.map_cons, List.map_nil]); first | done | rfl) ?_; (with_reducible refine (impl_Circuit_put.row gb102 (wrap64 (2 * a0)) v116 u103002 y115 y127 t118 t119 t120 t121 t122 t123 t124 t125 t126 (wrap64 (3 + (wrap64 (2 * x23_2)))) (wrap64 (4 + (wrap64 (2 * x23_2)))) w.heap.size (fun _ => True) w _ Ny127.out ?side1 ?side3 ?side4 ?side2 ?side5 ?side6).mono ?_); (case side1 => exact (by (with_reducible repeat (first | refine blk_drewN ?_ _ | refine blk_drew ?_ | refine blk_alloc ?_ _)); exact BK102.out)); (case side2 => exact (by repeat (first | (with_reducible first | exact HB.out | apply below_alloc | apply pw_below_drewN | apply below_drew1 | refine below_set ?_ GE101.out | refine below_set ?_ GE102.out) | exact HB.out))); (case side3 => exact (fun _ _ => trivial)); (case side4 => exact (by (with_reducible repeat (first | apply Kd.R_alloc | apply Kd.R_drewN | apply Kd.R_drew)); exact HO117.out)); (case side5 => exact (below_size (by repeat (first | (with_reducible first | exact HB.out | apply below_alloc | apply pw_below_drewN | apply below_drew1 | refine below_set ?_ GE101.out | refine below_set ?_ GE102.out) | exact HB.out)))); (case side6 => have := LMc14.out; omega); rintro e w_ ⟨v128, w26, rfl, rfl, ho, hb, hg, hat⟩; refine ⟨_, rfl, ?_⟩; have n0_ := Aside0.mk (Kd.R_over' (by (with_reducible repeat (first | apply Kd.R_alloc | apply Kd.R_drewN | apply Kd.R_drew)); exact HO_103002.out) (Kd.R_typed (by (with_reducible repeat (first | apply Kd.R_alloc | apply Kd.R_drewN | apply Kd.R_drew)); exact HO117.out)) (by decide) hg); have n1_ := Aside0.mk (blk_grown (g := gb101) (o := .cells #[.int .i64 0, .slice none 0 0, .slice none 0 0] 35 (0, 0)) (by (with_reducible repeat (first | refine blk_drewN ?_ _ | refine blk_drew ?_ | refine blk_alloc ?_ _)); exact BK101.out) hg (Kd.R_ne HO117.out BK101.out (by decide))); have n2_ := Aside0.mk (blk_grown (g := gb102) (o := .cells #[.int .i64 (wrap64 (2 * a0)), v116, u103002] 35 (0, 0)) (by (with_reducible repeat (first | refine blk_drewN ?_ _ | refine blk_drew ?_ | refine blk_alloc ?_ _)); exact BK102.out) hg (Kd.R_ne HO117.out BK102.out (by decide))); have n3_ := Aside0.mk (hb); have n4_ := Aside0.mk (ho); clear HO_103002; clear BK101; clear BK102; clear HB; clear HO117; have HO_103002 := n0_; have BK101 := n1_; have BK102 := n2_; have HB := n3_; have HO129 := n4_; clear n0_ n1_ n2_ n3_ n4_; clear ho hb hg hat; have n0_ : Aside0 (Kd.R (Kd.int .i64) 3 (w26.setCell ⟨gb102, 1, none⟩ (v128)) w.heap.size (fun _ => True) u103002 x103002_2) := ⟨by (with_reducible repeat (first | apply Kd.R_alloc | apply Kd.R_drewN | apply Kd.R_drew)); exact Kd.R_mono (Kd.R_far (p := ⟨gb102, 1, none⟩) (Kd.R_types HO_103002.out BK102.out (by decide)) (fun _ hk => hk.2) (v128)) (fun _ hk => trivial)⟩; have n1_ : Aside0 (Kd.R k46 46 (w26.setCell ⟨gb102, 1, none⟩ (v128)) w.heap.size (fun _ => True) v128 y127) := ⟨by (with_reducible repeat (first | apply Kd.R_alloc | apply Kd.R_drewN | apply Kd.R_drew)); exact Kd.R_mono (Kd.R_far (p := ⟨gb102, 1, none⟩) (Kd.R_types HO129.out BK102.out (by decide)) (fun _ hk => hk.2) (v128)) (fun _ hk => trivial)⟩; have n2_ : Aside0 ((w26.setCell ⟨gb102, 1, none⟩ (v128)).heap[gb101]? = some (.cells #[.int .i64 0, .slice none 0 0, .slice none 0 0] 35 (0, 0))) := ⟨by (with_reducible repeat (first | refine blk_drewN ?_ _ | refine blk_drew ?_ | refine blk_alloc ?_ _)); refine blk_far ?_ NB101_102.out _; (with_reducible repeat (first | refine blk_drewN ?_ _ | refine blk_drew ?_ | refine blk_alloc ?_ _)); exact BK101.out⟩; have n3_ : Aside0 ((w26.setCell ⟨gb102, 1, none⟩ (v128)).heap[gb102]? = some (.cells #[.int .i64 (wrap64 (2 * a0)), v128, u103002] 35 (0, 0))) := ⟨by (with_reducible repeat (first | refine blk_drewN ?_ _ | refine blk_drew ?_ | refine blk_alloc ?_ _)); refine blk_put (cs := #[.int .i64 (wrap64 (2 * a0)), v116, u103002]) ?_ 1 _ rfl; (with_reducible repeat (first | refine blk_drewN ?_ _ | refine blk_drew ?_ | refine blk_alloc ?_ _)); exact BK102.out⟩; have n4_ : Aside0 (Below w.heap.size w (w26.setCell ⟨gb102, 1, none⟩ (v128))) := ⟨by repeat (first | (with_reducible first | exact HB.out | apply below_alloc | apply pw_below_drewN | apply below_drew1 | refine below_set ?_ GE101.out | refine below_set ?_ GE102.out) | exact HB.out)⟩; (try clear HO_103002); (try clear HO129); (try clear BK101); (try clear BK102); (try clear HB); generalize (w26.setCell ⟨gb102, 1, none⟩ (v128)) = w27 at n0_ n1_ n2_ n3_ n4_ ⊢; have HO_103002 := n0_; have HO129 := n1_; have BK101 := n2_; have BK102 := n3_; have HB := n4_; clear n0_ n1_ n2_ n3_ n4_))
                          have n0_ := Aside0.mk (Kd.R_drew HO_103002.out)
                          have n1_ := Aside0.mk (Kd.R_drew HO129.out)
                          have n2_ := Aside0.mk (blk_drew BK101.out)
                          have n3_ := Aside0.mk (blk_drew BK102.out)
                          have n4_ := Aside0.mk (below_drew1 HB.out)
                          clear HO_103002
                          clear HO129
                          clear BK101
                          clear BK102
                          clear HB
                          have HO_103002 := n0_
                          have HO129 := n1_
                          have BK101 := n2_
                          have BK102 := n3_
                          have HB := n4_
                          clear n0_ n1_ n2_ n3_ n4_
                          refine start_ (n := 10) (S := fun w' => w'.cell? ⟨gb102, 0, none⟩ = some (.int .i64 (wrap64 (2 * a0))) ∧ w'.cell? ⟨gb102, 2, none⟩ = some (u103002)) (ds := [9]) #[false, false, false, false, false, false, false, false, false, false] (by kernel_rfl) rfl rfl ⟨(blk_cell BK102.out 0).trans rfl, (blk_cell BK102.out 2).trans rfl⟩ (fun hHeld => ?_); refine with_tabW impl_AdderCircuit.tab10 impl_AdderCircuit.bits10 (fun HT_ HW_ => ?_)
                          generalize w27.drew = w28 at HO_103002 HO129 BK101 BK102 HB hHeld ⊢
                          refine pure_ (i := 0) (N := some 40) (v := ?_) (a' := ?_) #[true, false, false, false, false, false, false, false, false, false] rfl rfl (any_of HT_.out (by kernel_rfl)) (fun _ _ _ h => h) (Or.inl ⟨by rfl, ?_⟩) ?_ ?_
                          rotate_left
                          · intro w'
                            go_simp
                            with_reducible rfl
                          rotate_left
                          · simp only [Act.put, List.setIfInBounds_toArray, List.set_cons_zero, List.set_cons_succ, i64_w, i32_w]
                            rfl
                          refine pure_ (i := 3) (N := some 43) (v := ?_) (a' := ?_) #[true, false, false, true, false, false, false, false, false, false] rfl rfl (any_of HT_.out (by kernel_rfl)) (fun _ _ _ h => h) (Or.inl ⟨by rfl, ?_⟩) ?_ ?_
                          rotate_left
                          · intro w'
                            go_simp
                            with_reducible rfl
                          rotate_left
                          · simp only [Act.put, List.setIfInBounds_toArray, List.set_cons_zero, List.set_cons_succ, i64_w, i32_w]
                            rfl
                          refine pure_ (i := 4) (N := some 44) (v := ?_) (a' := ?_) #[true, false, false, true, true, false, false, false, false, false] rfl rfl (any_of HT_.out (by kernel_rfl)) (fun _ _ _ h => h) (Or.inl ⟨by rfl, ?_⟩) ?_ ?_
                          rotate_left
                          · intro w'
                            go_simp
                            with_reducible rfl
                          rotate_left
                          · simp only [Act.put, List.setIfInBounds_toArray, List.set_cons_zero, List.set_cons_succ, i64_w, i32_w]
                            rfl
                          refine take_ (i := 1) (N := some 41) (v := ?_) (a' := ?_) #[true, true, false, true, true, false, false, false, false, false] rfl rfl (take_ofW HT_.out HW_.out (by kernel_rfl)) (fun _ _ _ h => h) (Or.inl ⟨by rfl, ?_⟩) hHeld ?_ ?_
                          rotate_left
                          · rintro w' ⟨s0, s1⟩
                            go_simp
                            with_reducible rfl
                          rotate_left
                          · simp only [Act.put, List.setIfInBounds_toArray, List.set_cons_zero, List.set_cons_succ, i64_w, i32_w]
                            rfl
                          refine one_ (i := 2) (N := some 42) #[true, true, true, true, true, false, false, false, false, false] rfl rfl (one_of HT_.out (by kernel_rfl)) (by decide) (fun K hK => ?_)
                          refine goes_ Try.func78 (by kernel_rfl) rfl #[.string (⟨#[115, 117, 109]⟩ : ByteArray)] (by rfl) rfl rfl (by (try simp only [List.map_toArray, List.map_cons, List.map_nil]); first | done | rfl | (simp only [List.length_drop, List.length_take]; rfl)) ?_
                          with_reducible refine (impl_TableOf.calls (⟨#[115, 117, 109]⟩ : ByteArray) t130 t131 t132 t133 t134 t135 t136 t137 t138 _ A15.out).mono ?_
                          rintro e w29 ⟨rfl, hb⟩
                          refine ⟨_, rfl, ?_⟩
                          have n0_ := Aside0.mk (Kd.R_below (by (with_reducible repeat (first | apply Kd.R_alloc | apply Kd.R_drewN | apply Kd.R_drew)); exact HO_103002.out) hb)
                          have n1_ := Aside0.mk (Kd.R_below (by (with_reducible repeat (first | apply Kd.R_alloc | apply Kd.R_drewN | apply Kd.R_drew)); exact HO129.out) hb)
                          have n2_ := Aside0.mk (blk_below (g := gb101) (o := .cells #[.int .i64 0, .slice none 0 0, .slice none 0 0] 35 (0, 0)) (by (with_reducible repeat (first | refine blk_drewN ?_ _ | refine blk_drew ?_ | refine blk_alloc ?_ _)); exact BK101.out) hb)
                          have n3_ := Aside0.mk (blk_below (g := gb102) (o := .cells #[.int .i64 (wrap64 (2 * a0)), v128, u103002] 35 (0, 0)) (by (with_reducible repeat (first | refine blk_drewN ?_ _ | refine blk_drew ?_ | refine blk_alloc ?_ _)); exact BK102.out) hb)
                          have n4_ := Aside0.mk (below_step (by repeat (first | (with_reducible first | exact HB.out | apply below_alloc | apply pw_below_drewN | apply below_drew1 | refine below_set ?_ GE101.out | refine below_set ?_ GE102.out) | exact HB.out)) hb)
                          clear HO_103002
                          clear HO129
                          clear BK101
                          clear BK102
                          clear HB
                          have HO_103002 := n0_
                          have HO129 := n1_
                          have BK101 := n2_
                          have BK102 := n3_
                          have HB := n4_
                          clear n0_ n1_ n2_ n3_ n4_
                          (try clear hb)
                          (try clear hb2)
                          (try clear hk)
                          (try clear hi)
                          clear A15
                          refine hK.out _ _ ⟨(blk_cell BK102.out 0).trans rfl, (blk_cell BK102.out 2).trans rfl⟩ (fun hHeld => ?_)
                          clear hK K
                          refine norm_ (a' := ?_) ?_ ?_
                          rotate_left
                          · show Act.put _ (some 42) _ = _
                            simp only [Act.put, List.setIfInBounds_toArray, List.set_cons_zero, List.set_cons_succ, i64_w, i32_w]
                            rfl
                          refine one_ (i := 5) (N := some 45) #[true, true, true, true, true, true, false, false, false, false] rfl rfl (one_of HT_.out (by kernel_rfl)) (by decide) (fun K hK => ?_)
                          refine goes_ Try.func69 (by kernel_rfl) rfl #[.pointer (some ⟨gb102, 0, none⟩), .agg #[.int .i64 t130, .int .i64 t131, .int .i64 t132, .int .i64 t133, .int .i64 t134, .int .i64 t135, .int .i64 t136, .int .i64 t137, .int .i64 t138], .int .i64 (wrap64 (wrap64 (2 + (wrap64 (2 * a0))) + (y115.length : Int))), .int .i64 x5_2] (by rfl) rfl rfl (by (try simp only [List.map_toArray, List.map_cons, List.map_nil]); first | done | rfl | (simp only [List.length_drop, List.length_take]; rfl)) ?_
                          with_reducible refine (impl_Circuit_put.row gb102 (wrap64 (2 * a0)) v128 u103002 y127 y139 t130 t131 t132 t133 t134 t135 t136 t137 t138 (wrap64 (wrap64 (2 + (wrap64 (2 * a0))) + (y115.length : Int))) x5_2 w.heap.size (fun _ => True) w _ Ny139.out ?side1 ?side3 ?side4 ?side2 ?side5 ?side6).mono ?_
                          (case side1 => exact (by (with_reducible repeat (first | refine blk_drewN ?_ _ | refine blk_drew ?_ | refine blk_alloc ?_ _)); exact BK102.out))
                          (case side2 => exact (by repeat (first | (with_reducible first | exact HB.out | apply below_alloc | apply pw_below_drewN | apply below_drew1 | refine below_set ?_ GE101.out | refine below_set ?_ GE102.out) | exact HB.out)))
                          (case side3 => exact (fun _ _ => trivial))
                          (case side4 => exact (by (with_reducible repeat (first | apply Kd.R_alloc | apply Kd.R_drewN | apply Kd.R_drew)); exact HO129.out))
                          (case side5 => exact (below_size (by repeat (first | (with_reducible first | exact HB.out | apply below_alloc | apply pw_below_drewN | apply below_drew1 | refine below_set ?_ GE101.out | refine below_set ?_ GE102.out) | exact HB.out))))
                          (case side6 => have := LMc16.out; omega)
                          rintro e w_ ⟨v140, w30, rfl, rfl, ho, hb, hg, hat⟩
                          refine ⟨_, rfl, ?_⟩
                          have n0_ := Aside0.mk (Kd.R_over' (by (with_reducible repeat (first | apply Kd.R_alloc | apply Kd.R_drewN | apply Kd.R_drew)); exact HO_103002.out) (Kd.R_typed (by (with_reducible repeat (first | apply Kd.R_alloc | apply Kd.R_drewN | apply Kd.R_drew)); exact HO129.out)) (by decide) hg)
                          have n1_ := Aside0.mk (blk_grown (g := gb101) (o := .cells #[.int .i64 0, .slice none 0 0, .slice none 0 0] 35 (0, 0)) (by (with_reducible repeat (first | refine blk_drewN ?_ _ | refine blk_drew ?_ | refine blk_alloc ?_ _)); exact BK101.out) hg (Kd.R_ne HO129.out BK101.out (by decide)))
                          have n2_ := Aside0.mk (blk_grown (g := gb102) (o := .cells #[.int .i64 (wrap64 (2 * a0)), v128, u103002] 35 (0, 0)) (by (with_reducible repeat (first | refine blk_drewN ?_ _ | refine blk_drew ?_ | refine blk_alloc ?_ _)); exact BK102.out) hg (Kd.R_ne HO129.out BK102.out (by decide)))
                          have n3_ := Aside0.mk (hb)
                          have n4_ := Aside0.mk (ho)
                          clear HO_103002
                          clear BK101
                          clear BK102
                          clear HB
                          clear HO129
                          have HO_103002 := n0_
                          have BK101 := n1_
                          have BK102 := n2_
                          have HB := n3_
                          have HO141 := n4_
                          clear n0_ n1_ n2_ n3_ n4_
                          clear ho hb hg hat
                          have n0_ : Aside0 (Kd.R (Kd.int .i64) 3 (w30.setCell ⟨gb102, 1, none⟩ (v140)) w.heap.size (fun _ => True) u103002 x103002_2) := ⟨by (with_reducible repeat (first | apply Kd.R_alloc | apply Kd.R_drewN | apply Kd.R_drew)); exact Kd.R_mono (Kd.R_far (p := ⟨gb102, 1, none⟩) (Kd.R_types HO_103002.out BK102.out (by decide)) (fun _ hk => hk.2) (v140)) (fun _ hk => trivial)⟩
                          have n1_ : Aside0 (Kd.R k46 46 (w30.setCell ⟨gb102, 1, none⟩ (v140)) w.heap.size (fun _ => True) v140 y139) := ⟨by (with_reducible repeat (first | apply Kd.R_alloc | apply Kd.R_drewN | apply Kd.R_drew)); exact Kd.R_mono (Kd.R_far (p := ⟨gb102, 1, none⟩) (Kd.R_types HO141.out BK102.out (by decide)) (fun _ hk => hk.2) (v140)) (fun _ hk => trivial)⟩
                          have n2_ : Aside0 ((w30.setCell ⟨gb102, 1, none⟩ (v140)).heap[gb101]? = some (.cells #[.int .i64 0, .slice none 0 0, .slice none 0 0] 35 (0, 0))) := ⟨by (with_reducible repeat (first | refine blk_drewN ?_ _ | refine blk_drew ?_ | refine blk_alloc ?_ _)); refine blk_far ?_ NB101_102.out _; (with_reducible repeat (first | refine blk_drewN ?_ _ | refine blk_drew ?_ | refine blk_alloc ?_ _)); exact BK101.out⟩
                          have n3_ : Aside0 ((w30.setCell ⟨gb102, 1, none⟩ (v140)).heap[gb102]? = some (.cells #[.int .i64 (wrap64 (2 * a0)), v140, u103002] 35 (0, 0))) := ⟨by (with_reducible repeat (first | refine blk_drewN ?_ _ | refine blk_drew ?_ | refine blk_alloc ?_ _)); refine blk_put (cs := #[.int .i64 (wrap64 (2 * a0)), v128, u103002]) ?_ 1 _ rfl; (with_reducible repeat (first | refine blk_drewN ?_ _ | refine blk_drew ?_ | refine blk_alloc ?_ _)); exact BK102.out⟩
                          have n4_ : Aside0 (Below w.heap.size w (w30.setCell ⟨gb102, 1, none⟩ (v140))) := ⟨by repeat (first | (with_reducible first | exact HB.out | apply below_alloc | apply pw_below_drewN | apply below_drew1 | refine below_set ?_ GE101.out | refine below_set ?_ GE102.out) | exact HB.out)⟩
                          (try clear HO_103002)
                          (try clear HO141)
                          (try clear BK101)
                          (try clear BK102)
                          (try clear HB)
                          generalize (w30.setCell ⟨gb102, 1, none⟩ (v140)) = w31 at n0_ n1_ n2_ n3_ n4_ ⊢
                          have HO_103002 := n0_
                          have HO141 := n1_
                          have BK101 := n2_
                          have BK102 := n3_
                          have HB := n4_
                          clear n0_ n1_ n2_ n3_ n4_
                          refine hK.out _ _ ⟨(blk_cell BK102.out 0).trans rfl, (blk_cell BK102.out 2).trans rfl⟩ (fun hHeld => ?_)
                          clear hK K
                          refine norm_ (a' := ?_) ?_ ?_
                          rotate_left
                          · show Act.put _ (some 45) _ = _
                            simp only [Act.put, List.setIfInBounds_toArray, List.set_cons_zero, List.set_cons_succ, i64_w, i32_w]
                            rfl
                          refine one_ (i := 6) (N := some 46) #[true, true, true, true, true, true, true, false, false, false] rfl rfl (one_of HT_.out (by kernel_rfl)) (by decide) (fun K hK => ?_)
                          refine value_ (w1 := ?_) (v := ?_) (by rfl) rfl ?_ ?_
                          rotate_left 2
                          · go_simp
                            constructor
                            · rfl
                            · rfl
                          refine hK.out _ _ ⟨(blk_cell (blk_alloc BK102.out _) 0).trans rfl, (blk_cell (blk_alloc BK102.out _) 2).trans rfl⟩ (fun hHeld => ?_)
                          clear hK K
                          refine norm_ (a' := ?_) ?_ ?_
                          rotate_left
                          · show Act.put _ (some 46) _ = _
                            simp only [Act.put, List.setIfInBounds_toArray, List.set_cons_zero, List.set_cons_succ, i64_w, i32_w]
                            rfl
                          refine one_ (i := 7) (N := some 47) #[true, true, true, true, true, true, true, true, false, false] rfl rfl (one_of HT_.out (by kernel_rfl)) (by decide) (fun K hK => ?_)
                          refine Kd.R_append_step (Kd.int .i64) (w0 := w) w.heap.size (by rfl) (.tmp 41) (.tmp 46) 28 3 (.int .i64 0) 8 rfl Try.underlying28 info3 rfl (by decide) (by omega) u103002 x103002_2 (wrap64 (wrap64 (2 + (wrap64 (2 * a0))) + (y139.length : Int))) [.int .i64 (wrap64 (wrap64 (2 + (wrap64 (2 * a0))) + (y139.length : Int)))] (fun _ => True) (fun _ => False) rfl rfl ?aP (fun _ hk => hk.elim) ?aF ?aO ?aB ?aS ?aL ?_
                          (case aP => exact rfl)
                          (case aB => exact (by repeat (first | (with_reducible first | exact HB.out | apply below_alloc | apply pw_below_drewN | apply below_drew1 | refine below_set ?_ GE101.out | refine below_set ?_ GE102.out) | exact HB.out)))
                          (case aF => exact (fun _ _ => trivial))
                          (case aO => exact (by (with_reducible repeat (first | apply Kd.R_alloc | apply Kd.R_drewN | apply Kd.R_drew)); exact HO_103002.out))
                          (case aS => exact (below_size (by repeat (first | (with_reducible first | exact HB.out | apply below_alloc | apply pw_below_drewN | apply below_drew1 | refine below_set ?_ GE101.out | refine below_set ?_ GE102.out) | exact HB.out))))
                          (case aL => have := LMc17.out; omega)
                          intro v143 w32 ho hb hg hat
                          rw [← Ny142.out] at ho
                          have n0_ := Aside0.mk (blk_grown (g := gb101) (o := .cells #[.int .i64 0, .slice none 0 0, .slice none 0 0] 35 (0, 0)) (by (with_reducible repeat (first | refine blk_drewN ?_ _ | refine blk_drew ?_ | refine blk_alloc ?_ _)); exact BK101.out) hg (Kd.R_ne HO_103002.out BK101.out (by decide)))
                          have n1_ := Aside0.mk (blk_grown (g := gb102) (o := .cells #[.int .i64 (wrap64 (2 * a0)), v140, u103002] 35 (0, 0)) (by (with_reducible repeat (first | refine blk_drewN ?_ _ | refine blk_drew ?_ | refine blk_alloc ?_ _)); exact BK102.out) hg (Kd.R_ne HO_103002.out BK102.out (by decide)))
                          have n2_ := Aside0.mk (Kd.R_over' (by (with_reducible repeat (first | apply Kd.R_alloc | apply Kd.R_drewN | apply Kd.R_drew)); exact HO141.out) (Kd.R_typed (by (with_reducible repeat (first | apply Kd.R_alloc | apply Kd.R_drewN | apply Kd.R_drew)); exact HO_103002.out)) (by decide) hg)
                          have n3_ := Aside0.mk (hb)
                          have n4_ := Aside0.mk (ho)
                          clear BK101
                          clear BK102
                          clear HO141
                          clear HB
                          clear HO_103002
                          have BK101 := n0_
                          have BK102 := n1_
                          have HO141 := n2_
                          have HB := n3_
                          have HO144 := n4_
                          clear n0_ n1_ n2_ n3_ n4_
                          clear ho hb hg hat
                          obtain ⟨Ao33, co33, eo33⟩ := Kd.R_slice HO144.out
                          (first | subst eo33 | (injection eo33 with f1_ f2_ f3_; have f4_ := f1_.symm; have f5_ := f3_.symm; clear f1_ f2_ f3_; subst f4_; subst f5_))
                          refine hK.out _ _ ⟨(blk_cell BK102.out 0).trans rfl, (blk_cell BK102.out 2).trans rfl⟩ (fun hHeld => ?_)
                          clear hK K
                          refine norm_ (a' := ?_) ?_ ?_
                          rotate_left
                          · show Act.put _ (some 47) _ = _
                            simp only [Act.put, List.setIfInBounds_toArray, List.set_cons_zero, List.set_cons_succ, i64_w, i32_w]
                            rfl
                          refine pure_ (i := 8) (N := some 48) (v := ?_) (a' := ?_) #[true, true, true, true, true, true, true, true, true, false] rfl rfl (any_of HT_.out (by kernel_rfl)) (fun _ _ _ h => h) (Or.inl ⟨by rfl, ?_⟩) ?_ ?_
                          rotate_left
                          · intro w'
                            go_simp
                            with_reducible rfl
                          rotate_left
                          · simp only [Act.put, List.setIfInBounds_toArray, List.set_cons_zero, List.set_cons_succ, i64_w, i32_w]
                            rfl
                          refine last_ (i := 9) (N := none) #[true, true, true, true, true, true, true, true, true, true] rfl rfl (one_of HT_.out (by kernel_rfl)) (by decide) (fun K hK => ?_)
                          have hs34 : w32.cell? ⟨gb102, 2, none⟩ = some (u103002) := (blk_cell BK102.out 2).trans rfl
                          have hfs34 := blk_frozen BK102.out 2
                          have hns34_0 := NB101_102.out
                          have hms34_0 := NB102_101.out
                          refine skip_ (w1 := ?_) (by rfl) rfl ?_ ?_
                          rotate_left
                          · go_simp
                            rfl
                          refine hK.out _ _ ?_
                          clear hK K
                          refine done_ (done_of HT_.out (by kernel_rfl)) ?_
                          try go_wp2_with (first | ((with_reducible refine gate_callee (f := 78) rfl ?_); refine goesL_ (some 49) rfl rfl Try.func78 (by kernel_rfl) rfl #[.string (⟨#[99, 97, 114, 114, 121]⟩ : ByteArray)] rfl (by (try simp only [List.map_toArray, List.map_cons, List.map_nil]); first | done | rfl | (simp only [List.length_drop, List.length_take]; rfl)) ?_; (with_reducible refine (impl_TableOf.calls (⟨#[99, 97, 114, 114, 121]⟩ : ByteArray) t145 t146 t147 t148 t149 t150 t151 t152 t153 _ A18.out).mono ?_); rintro e w35 ⟨rfl, hb⟩; refine ⟨_, rfl, ?_⟩; have n0_ := Aside0.mk (Kd.R_below (by (with_reducible repeat (first | apply Kd.R_alloc | apply Kd.R_drewN | apply Kd.R_drew)); exact (Kd.R_mono (Kd.R_far (p := ⟨gb102, 2, none⟩) (Kd.R_types HO141.out BK102.out (by decide)) (fun _ hk => hk.2) (.slice Ao33 y142.length co33)) (fun _ h_ => h_.1))) hb); have n1_ := Aside0.mk (Kd.R_below (by (with_reducible repeat (first | apply Kd.R_alloc | apply Kd.R_drewN | apply Kd.R_drew)); exact (Kd.R_mono (Kd.R_far (p := ⟨gb102, 2, none⟩) (Kd.R_types HO144.out BK102.out (by decide)) (fun _ hk => hk.2) (.slice Ao33 y142.length co33)) (fun _ h_ => h_.1))) hb); have n2_ := Aside0.mk (blk_below (g := gb101) (o := .cells #[.int .i64 0, .slice none 0 0, .slice none 0 0] 35 (0, 0)) (by (with_reducible repeat (first | refine blk_drewN ?_ _ | refine blk_drew ?_ | refine blk_alloc ?_ _)); refine blk_far ?_ NB101_102.out _; (with_reducible repeat (first | refine blk_drewN ?_ _ | refine blk_drew ?_ | refine blk_alloc ?_ _)); exact BK101.out) hb); have n3_ := Aside0.mk (blk_below (g := gb102) (o := .cells #[.int .i64 (wrap64 (2 * a0)), v140, .slice Ao33 y142.length co33] 35 (0, 0)) (by (with_reducible repeat (first | refine blk_drewN ?_ _ | refine blk_drew ?_ | refine blk_alloc ?_ _)); refine blk_put (cs := #[.int .i64 (wrap64 (2 * a0)), v140, u103002]) ?_ 2 _ rfl; (with_reducible repeat (first | refine blk_drewN ?_ _ | refine blk_drew ?_ | refine blk_alloc ?_ _)); exact BK102.out) hb); have n4_ := Aside0.mk (below_step (by repeat (first | (with_reducible first | exact HB.out | apply below_alloc | apply pw_below_drewN | apply below_drew1 | refine below_set ?_ GE101.out | refine below_set ?_ GE102.out) | exact HB.out)) hb); clear HO141; clear HO144; clear BK101; clear BK102; clear HB; have HO141 := n0_; have HO144 := n1_; have BK101 := n2_; have BK102 := n3_; have HB := n4_; clear n0_ n1_ n2_ n3_ n4_; (try clear hb); (try clear hb2); (try clear hk); (try clear hi); clear A18) | ((with_reducible refine gate_callee (f := 69) rfl ?_); refine goesL_ (some 52) rfl rfl Try.func69 (by kernel_rfl) rfl #[.pointer (some ⟨gb102, 0, none⟩), .agg #[.int .i64 t145, .int .i64 t146, .int .i64 t147, .int .i64 t148, .int .i64 t149, .int .i64 t150, .int .i64 t151, .int .i64 t152, .int .i64 t153], .int .i64 (wrap64 (wrap64 (2 + (wrap64 (2 * a0))) + (y115.length : Int))), .int .i64 x5_2] rfl (by (try simp only [List.map_toArray, List.map_cons, List.map_nil]); first | done | rfl) ?_; (with_reducible refine (impl_Circuit_put.row gb102 (wrap64 (2 * a0)) v140 (.slice Ao33 y142.length co33) y139 y154 t145 t146 t147 t148 t149 t150 t151 t152 t153 (wrap64 (wrap64 (2 + (wrap64 (2 * a0))) + (y115.length : Int))) x5_2 w.heap.size (fun _ => True) w _ Ny154.out ?side1 ?side3 ?side4 ?side2 ?side5 ?side6).mono ?_); (case side1 => exact (by (with_reducible repeat (first | refine blk_drewN ?_ _ | refine blk_drew ?_ | refine blk_alloc ?_ _)); exact BK102.out)); (case side2 => exact (by repeat (first | (with_reducible first | exact HB.out | apply below_alloc | apply pw_below_drewN | apply below_drew1 | refine below_set ?_ GE101.out | refine below_set ?_ GE102.out) | exact HB.out))); (case side3 => exact (fun _ _ => trivial)); (case side4 => exact (by (with_reducible repeat (first | apply Kd.R_alloc | apply Kd.R_drewN | apply Kd.R_drew)); exact HO141.out)); (case side5 => exact (below_size (by repeat (first | (with_reducible first | exact HB.out | apply below_alloc | apply pw_below_drewN | apply below_drew1 | refine below_set ?_ GE101.out | refine below_set ?_ GE102.out) | exact HB.out)))); (case side6 => have := LMc19.out; omega); rintro e w_ ⟨v155, w36, rfl, rfl, ho, hb, hg, hat⟩; refine ⟨_, rfl, ?_⟩; have n0_ := Aside0.mk (blk_grown (g := gb101) (o := .cells #[.int .i64 0, .slice none 0 0, .slice none 0 0] 35 (0, 0)) (by (with_reducible repeat (first | refine blk_drewN ?_ _ | refine blk_drew ?_ | refine blk_alloc ?_ _)); exact BK101.out) hg (Kd.R_ne HO141.out BK101.out (by decide))); have n1_ := Aside0.mk (blk_grown (g := gb102) (o := .cells #[.int .i64 (wrap64 (2 * a0)), v140, .slice Ao33 y142.length co33] 35 (0, 0)) (by (with_reducible repeat (first | refine blk_drewN ?_ _ | refine blk_drew ?_ | refine blk_alloc ?_ _)); exact BK102.out) hg (Kd.R_ne HO141.out BK102.out (by decide))); have n2_ := Aside0.mk (Kd.R_over' (by (with_reducible repeat (first | apply Kd.R_alloc | apply Kd.R_drewN | apply Kd.R_drew)); exact HO144.out) (Kd.R_typed (by (with_reducible repeat (first | apply Kd.R_alloc | apply Kd.R_drewN | apply Kd.R_drew)); exact HO141.out)) (by decide) hg); have n3_ := Aside0.mk (hb); have n4_ := Aside0.mk (ho); clear BK101; clear BK102; clear HO144; clear HB; clear HO141; have BK101 := n0_; have BK102 := n1_; have HO144 := n2_; have HB := n3_; have HO156 := n4_; clear n0_ n1_ n2_ n3_ n4_; clear ho hb hg hat; have n0_ : Aside0 (Kd.R (Kd.int .i64) 3 (w36.setCell ⟨gb102, 1, none⟩ (v155)) w.heap.size (fun _ => True) (.slice Ao33 y142.length co33) y142) := ⟨by (with_reducible repeat (first | apply Kd.R_alloc | apply Kd.R_drewN | apply Kd.R_drew)); exact Kd.R_mono (Kd.R_far (p := ⟨gb102, 1, none⟩) (Kd.R_types HO144.out BK102.out (by decide)) (fun _ hk => hk.2) (v155)) (fun _ hk => trivial)⟩; have n1_ : Aside0 (Kd.R k46 46 (w36.setCell ⟨gb102, 1, none⟩ (v155)) w.heap.size (fun _ => True) v155 y154) := ⟨by (with_reducible repeat (first | apply Kd.R_alloc | apply Kd.R_drewN | apply Kd.R_drew)); exact Kd.R_mono (Kd.R_far (p := ⟨gb102, 1, none⟩) (Kd.R_types HO156.out BK102.out (by decide)) (fun _ hk => hk.2) (v155)) (fun _ hk => trivial)⟩; have n2_ : Aside0 ((w36.setCell ⟨gb102, 1, none⟩ (v155)).heap[gb101]? = some (.cells #[.int .i64 0, .slice none 0 0, .slice none 0 0] 35 (0, 0))) := ⟨by (with_reducible repeat (first | refine blk_drewN ?_ _ | refine blk_drew ?_ | refine blk_alloc ?_ _)); refine blk_far ?_ NB101_102.out _; (with_reducible repeat (first | refine blk_drewN ?_ _ | refine blk_drew ?_ | refine blk_alloc ?_ _)); exact BK101.out⟩; have n3_ : Aside0 ((w36.setCell ⟨gb102, 1, none⟩ (v155)).heap[gb102]? = some (.cells #[.int .i64 (wrap64 (2 * a0)), v155, .slice Ao33 y142.length co33] 35 (0, 0))) := ⟨by (with_reducible repeat (first | refine blk_drewN ?_ _ | refine blk_drew ?_ | refine blk_alloc ?_ _)); refine blk_put (cs := #[.int .i64 (wrap64 (2 * a0)), v140, .slice Ao33 y142.length co33]) ?_ 1 _ rfl; (with_reducible repeat (first | refine blk_drewN ?_ _ | refine blk_drew ?_ | refine blk_alloc ?_ _)); exact BK102.out⟩; have n4_ : Aside0 (Below w.heap.size w (w36.setCell ⟨gb102, 1, none⟩ (v155))) := ⟨by repeat (first | (with_reducible first | exact HB.out | apply below_alloc | apply pw_below_drewN | apply below_drew1 | refine below_set ?_ GE101.out | refine below_set ?_ GE102.out) | exact HB.out)⟩; (try clear HO144); (try clear HO156); (try clear BK101); (try clear BK102); (try clear HB); generalize (w36.setCell ⟨gb102, 1, none⟩ (v155)) = w37 at n0_ n1_ n2_ n3_ n4_ ⊢; have HO144 := n0_; have HO156 := n1_; have BK101 := n2_; have BK102 := n3_; have HB := n4_; clear n0_ n1_ n2_ n3_ n4_) | ((with_reducible refine gate_callee (f := 78) rfl ?_); refine goesL_ (some 53) rfl rfl Try.func78 (by kernel_rfl) rfl #[.string (⟨#[97, 110, 121]⟩ : ByteArray)] rfl (by (try simp only [List.map_toArray, List.map_cons, List.map_nil]); first | done | rfl | (simp only [List.length_drop, List.length_take]; rfl)) ?_; (with_reducible refine (impl_TableOf.calls (⟨#[97, 110, 121]⟩ : ByteArray) t157 t158 t159 t160 t161 t162 t163 t164 t165 _ A20.out).mono ?_); rintro e w38 ⟨rfl, hb⟩; refine ⟨_, rfl, ?_⟩; have n0_ := Aside0.mk (Kd.R_below (by (with_reducible repeat (first | apply Kd.R_alloc | apply Kd.R_drewN | apply Kd.R_drew)); exact HO144.out) hb); have n1_ := Aside0.mk (Kd.R_below (by (with_reducible repeat (first | apply Kd.R_alloc | apply Kd.R_drewN | apply Kd.R_drew)); exact HO156.out) hb); have n2_ := Aside0.mk (blk_below (g := gb101) (o := .cells #[.int .i64 0, .slice none 0 0, .slice none 0 0] 35 (0, 0)) (by (with_reducible repeat (first | refine blk_drewN ?_ _ | refine blk_drew ?_ | refine blk_alloc ?_ _)); exact BK101.out) hb); have n3_ := Aside0.mk (blk_below (g := gb102) (o := .cells #[.int .i64 (wrap64 (2 * a0)), v155, .slice Ao33 y142.length co33] 35 (0, 0)) (by (with_reducible repeat (first | refine blk_drewN ?_ _ | refine blk_drew ?_ | refine blk_alloc ?_ _)); exact BK102.out) hb); have n4_ := Aside0.mk (below_step (by repeat (first | (with_reducible first | exact HB.out | apply below_alloc | apply pw_below_drewN | apply below_drew1 | refine below_set ?_ GE101.out | refine below_set ?_ GE102.out) | exact HB.out)) hb); clear HO144; clear HO156; clear BK101; clear BK102; clear HB; have HO144 := n0_; have HO156 := n1_; have BK101 := n2_; have BK102 := n3_; have HB := n4_; clear n0_ n1_ n2_ n3_ n4_; (try clear hb); (try clear hb2); (try clear hk); (try clear hi)) | ((with_reducible refine gate_callee (f := 69) rfl ?_); refine goesL_ (some 56) rfl rfl Try.func69 (by kernel_rfl) rfl #[.pointer (some ⟨gb102, 0, none⟩), .agg #[.int .i64 t157, .int .i64 t158, .int .i64 t159, .int .i64 t160, .int .i64 t161, .int .i64 t162, .int .i64 t163, .int .i64 t164, .int .i64 t165], .int .i64 (wrap64 (wrap64 (2 + (wrap64 (2 * a0))) + (y127.length : Int))), .int .i64 (wrap64 (wrap64 (2 + (wrap64 (2 * a0))) + (y154.length : Int)))] rfl (by (try simp only [List.map_toArray, List.map_cons, List.map_nil]); first | done | rfl) ?_; (with_reducible refine (impl_Circuit_put.row gb102 (wrap64 (2 * a0)) v155 (.slice Ao33 y142.length co33) y154 y166 t157 t158 t159 t160 t161 t162 t163 t164 t165 (wrap64 (wrap64 (2 + (wrap64 (2 * a0))) + (y127.length : Int))) (wrap64 (wrap64 (2 + (wrap64 (2 * a0))) + (y154.length : Int))) w.heap.size (fun _ => True) w _ Ny166.out ?side1 ?side3 ?side4 ?side2 ?side5 ?side6).mono ?_); (case side1 => exact (by (with_reducible repeat (first | refine blk_drewN ?_ _ | refine blk_drew ?_ | refine blk_alloc ?_ _)); exact BK102.out)); (case side2 => exact (by repeat (first | (with_reducible first | exact HB.out | apply below_alloc | apply pw_below_drewN | apply below_drew1 | refine below_set ?_ GE101.out | refine below_set ?_ GE102.out) | exact HB.out))); (case side3 => exact (fun _ _ => trivial)); (case side4 => exact (by (with_reducible repeat (first | apply Kd.R_alloc | apply Kd.R_drewN | apply Kd.R_drew)); exact HO156.out)); (case side5 => exact (below_size (by repeat (first | (with_reducible first | exact HB.out | apply below_alloc | apply pw_below_drewN | apply below_drew1 | refine below_set ?_ GE101.out | refine below_set ?_ GE102.out) | exact HB.out)))); (case side6 => have := LMc21.out; omega); rintro e w_ ⟨v167, w39, rfl, rfl, ho, hb, hg, hat⟩; refine ⟨_, rfl, ?_⟩; have n0_ := Aside0.mk (blk_grown (g := gb101) (o := .cells #[.int .i64 0, .slice none 0 0, .slice none 0 0] 35 (0, 0)) (by (with_reducible repeat (first | refine blk_drewN ?_ _ | refine blk_drew ?_ | refine blk_alloc ?_ _)); exact BK101.out) hg (Kd.R_ne HO156.out BK101.out (by decide))); have n1_ := Aside0.mk (blk_grown (g := gb102) (o := .cells #[.int .i64 (wrap64 (2 * a0)), v155, .slice Ao33 y142.length co33] 35 (0, 0)) (by (with_reducible repeat (first | refine blk_drewN ?_ _ | refine blk_drew ?_ | refine blk_alloc ?_ _)); exact BK102.out) hg (Kd.R_ne HO156.out BK102.out (by decide))); have n2_ := Aside0.mk (Kd.R_over' (by (with_reducible repeat (first | apply Kd.R_alloc | apply Kd.R_drewN | apply Kd.R_drew)); exact HO144.out) (Kd.R_typed (by (with_reducible repeat (first | apply Kd.R_alloc | apply Kd.R_drewN | apply Kd.R_drew)); exact HO156.out)) (by decide) hg); have n3_ := Aside0.mk (hb); have n4_ := Aside0.mk (ho); clear BK101; clear BK102; clear HO144; clear HB; clear HO156; have BK101 := n0_; have BK102 := n1_; have HO144 := n2_; have HB := n3_; have HO168 := n4_; clear n0_ n1_ n2_ n3_ n4_; clear ho hb hg hat; have n0_ : Aside0 (Kd.R (Kd.int .i64) 3 (w39.setCell ⟨gb102, 1, none⟩ (v167)) w.heap.size (fun _ => True) (.slice Ao33 y142.length co33) y142) := ⟨by (with_reducible repeat (first | apply Kd.R_alloc | apply Kd.R_drewN | apply Kd.R_drew)); exact Kd.R_mono (Kd.R_far (p := ⟨gb102, 1, none⟩) (Kd.R_types HO144.out BK102.out (by decide)) (fun _ hk => hk.2) (v167)) (fun _ hk => trivial)⟩; have n1_ : Aside0 (Kd.R k46 46 (w39.setCell ⟨gb102, 1, none⟩ (v167)) w.heap.size (fun _ => True) v167 y166) := ⟨by (with_reducible repeat (first | apply Kd.R_alloc | apply Kd.R_drewN | apply Kd.R_drew)); exact Kd.R_mono (Kd.R_far (p := ⟨gb102, 1, none⟩) (Kd.R_types HO168.out BK102.out (by decide)) (fun _ hk => hk.2) (v167)) (fun _ hk => trivial)⟩; have n2_ : Aside0 ((w39.setCell ⟨gb102, 1, none⟩ (v167)).heap[gb101]? = some (.cells #[.int .i64 0, .slice none 0 0, .slice none 0 0] 35 (0, 0))) := ⟨by (with_reducible repeat (first | refine blk_drewN ?_ _ | refine blk_drew ?_ | refine blk_alloc ?_ _)); refine blk_far ?_ NB101_102.out _; (with_reducible repeat (first | refine blk_drewN ?_ _ | refine blk_drew ?_ | refine blk_alloc ?_ _)); exact BK101.out⟩; have n3_ : Aside0 ((w39.setCell ⟨gb102, 1, none⟩ (v167)).heap[gb102]? = some (.cells #[.int .i64 (wrap64 (2 * a0)), v167, .slice Ao33 y142.length co33] 35 (0, 0))) := ⟨by (with_reducible repeat (first | refine blk_drewN ?_ _ | refine blk_drew ?_ | refine blk_alloc ?_ _)); refine blk_put (cs := #[.int .i64 (wrap64 (2 * a0)), v155, .slice Ao33 y142.length co33]) ?_ 1 _ rfl; (with_reducible repeat (first | refine blk_drewN ?_ _ | refine blk_drew ?_ | refine blk_alloc ?_ _)); exact BK102.out⟩; have n4_ : Aside0 (Below w.heap.size w (w39.setCell ⟨gb102, 1, none⟩ (v167))) := ⟨by repeat (first | (with_reducible first | exact HB.out | apply below_alloc | apply pw_below_drewN | apply below_drew1 | refine below_set ?_ GE101.out | refine below_set ?_ GE102.out) | exact HB.out)⟩; (try clear HO144); (try clear HO168); (try clear BK101); (try clear BK102); (try clear HB); generalize (w39.setCell ⟨gb102, 1, none⟩ (v167)) = w40 at n0_ n1_ n2_ n3_ n4_ ⊢; have HO144 := n0_; have HO168 := n1_; have BK101 := n2_; have BK102 := n3_; have HB := n4_; clear n0_ n1_ n2_ n3_ n4_))
                          go_roundg k2
                          case measure => have := HJ1.out; have := HK2.out; omega
                          case rel => exact ⟨(wrap64 (wrap64 (2 + (wrap64 (2 * a0))) + (y166.length : Int))), (wrap64 (x23_2 + 1)), (y166), (y142), (v167), (.slice Ao33 y142.length co33), (by first | rfl | (simp; done) | (simp [*]; done)), (by first | rfl | (simp; done) | (simp [*]; done)), H', ⟨by have := HJ1.out; have := HK2.out; omega⟩, ⟨by (with_reducible repeat (first | apply Kd.R_alloc | apply Kd.R_drewN | apply Kd.R_drew)); exact HO168.out⟩, ⟨by (with_reducible repeat (first | apply Kd.R_alloc | apply Kd.R_drewN | apply Kd.R_drew)); exact HO144.out⟩, ⟨by (with_reducible repeat (first | refine blk_drewN ?_ _ | refine blk_drew ?_ | refine blk_alloc ?_ _)); exact BK101.out⟩, ⟨by (with_reducible repeat (first | refine blk_drewN ?_ _ | refine blk_drew ?_ | refine blk_alloc ?_ _)); exact BK102.out⟩, ⟨by repeat (first | (with_reducible first | exact HB.out | apply below_alloc | apply pw_below_drewN | apply below_drew1 | refine below_set ?_ GE101.out | refine below_set ?_ GE102.out) | exact HB.out)⟩⟩
                        · rw [if_neg c21] at H
                          exact absurd H (by simp)
                      · rw [if_neg c19] at H
                        exact absurd H (by simp)
                    · rw [if_neg c17] at H
                      exact absurd H (by simp)
                  · rw [if_neg c16] at H
                    exact absurd H (by simp)
                · rw [if_neg c14] at H
                  exact absurd H (by simp)
              · rw [if_neg c12] at H
                exact absurd H (by simp)
            · rw [if_neg c10] at H
              have c10b0 : decide (x23_2 < a0) = false := decide_eq_false c10
              clear c10
              by_cases c41 : x103002_2.length < 17592186044416
              · rw [if_pos c41] at H
                have LMc41 := Aside0.mk c41
                clear c41
                obtain ⟨y103, hy103⟩ : ∃ y_ : List Int, y_ = (x103002_2 ++ [x5_2]) := ⟨_, rfl⟩
                replace H : (some ((wrap64 (2 * a0)), x103001_2, y103, true)) = some (r1, r2, r3, r4) := by first | (rw [hy103]; with_reducible exact H) | (have H2_ := (Option.bind_some _ _).symm.trans H; rw [hy103]; with_reducible exact H2_) | (have H2_ := (Option.bind_some _ _).symm.trans H; with_reducible exact H2_) | with_reducible exact H | (rw [hy103]; exact H) | exact H
                have Ny103 := Aside0.mk hy103
                clear hy103
                simp only [Option.some.injEq, Prod.mk.injEq] at H
                obtain ⟨rfl, rfl, rfl, rfl⟩ := H
                have hnb42 := NB102_101.out
                have hnc42 := NB101_102.out
                have hcz43_0 : wr.cell? ⟨gb102, 0, none⟩ = some (.int .i64 (wrap64 (2 * a0))) := (blk_cell BK102.out 0).trans rfl
                have hcz43_1 : wr.cell? ⟨gb102, 1, none⟩ = some (u103001) := (blk_cell BK102.out 1).trans rfl
                have hcz43_2 : wr.cell? ⟨gb102, 2, none⟩ = some (u103002) := (blk_cell BK102.out 2).trans rfl
                have hfz43_0 := blk_frozen BK102.out 0
                have hfz43_1 := blk_frozen BK102.out 1
                have hfz43_2 := blk_frozen BK102.out 2
                go_wp2_with (first | ((with_reducible refine gate_builtin (b := .append) (xs := #[.tmp 59, .tmp 61]) rfl ?_); at_builtin; refine Kd.R_append (Kd.int .i64) (w0 := w) w.heap.size rfl (.tmp 59) (.tmp 61) 28 3 (.int .i64 0) 8 rfl Try.underlying28 info3 rfl (by decide) (by omega) u103002 x103002_2 x5_2 [.int .i64 x5_2] (fun _ => True) (fun _ => False) rfl rfl ?aP (fun _ hk => hk.elim) ?aF ?aO ?aB ?aS ?aL ?_; (case aP => exact rfl); (case aB => exact (by repeat (first | (with_reducible first | exact HB.out | apply below_alloc | apply pw_below_drewN | apply below_drew1 | refine below_set ?_ GE101.out | refine below_set ?_ GE102.out) | exact HB.out))); (case aF => exact (fun _ _ => trivial)); (case aO => exact (by (with_reducible repeat (first | apply Kd.R_alloc | apply Kd.R_drewN | apply Kd.R_drew)); exact HO_103002.out)); (case aS => exact (below_size (by repeat (first | (with_reducible first | exact HB.out | apply below_alloc | apply pw_below_drewN | apply below_drew1 | refine below_set ?_ GE101.out | refine below_set ?_ GE102.out) | exact HB.out)))); (case aL => have := LMc41.out; omega); intro v104 w44 ho hb hg hat; rw [← Ny103.out] at ho; have n0_ := Aside0.mk (Kd.R_over' (by (with_reducible repeat (first | apply Kd.R_alloc | apply Kd.R_drewN | apply Kd.R_drew)); exact HO_103001.out) (Kd.R_typed (by (with_reducible repeat (first | apply Kd.R_alloc | apply Kd.R_drewN | apply Kd.R_drew)); exact HO_103002.out)) (by decide) hg); have n1_ := Aside0.mk (blk_grown (g := gb101) (o := .cells #[.int .i64 0, .slice none 0 0, .slice none 0 0] 35 (0, 0)) (by (with_reducible repeat (first | refine blk_drewN ?_ _ | refine blk_drew ?_ | refine blk_alloc ?_ _)); exact BK101.out) hg (Kd.R_ne HO_103002.out BK101.out (by decide))); have n2_ := Aside0.mk (blk_grown (g := gb102) (o := .cells #[.int .i64 (wrap64 (2 * a0)), u103001, u103002] 35 (0, 0)) (by (with_reducible repeat (first | refine blk_drewN ?_ _ | refine blk_drew ?_ | refine blk_alloc ?_ _)); exact BK102.out) hg (Kd.R_ne HO_103002.out BK102.out (by decide))); have n3_ := Aside0.mk (hb); have n4_ := Aside0.mk (ho); clear HO_103001; clear BK101; clear BK102; clear HB; clear HO_103002; have HO_103001 := n0_; have BK101 := n1_; have BK102 := n2_; have HB := n3_; have HO105 := n4_; clear n0_ n1_ n2_ n3_ n4_; clear ho hb hg hat; obtain ⟨Ao45, co45, eo45⟩ := Kd.R_slice HO105.out; subst eo45; have hcz46_0 : w44.cell? ⟨gb102, 0, none⟩ = some (.int .i64 (wrap64 (2 * a0))) := (blk_cell BK102.out 0).trans rfl; have hcz46_1 : w44.cell? ⟨gb102, 1, none⟩ = some (u103001) := (blk_cell BK102.out 1).trans rfl; have hcz46_2 : w44.cell? ⟨gb102, 2, none⟩ = some (u103002) := (blk_cell BK102.out 2).trans rfl; have hfz46_0 := blk_frozen BK102.out 0; have hfz46_1 := blk_frozen BK102.out 1; have hfz46_2 := blk_frozen BK102.out 2; have hcz47_0 : w44.cell? ⟨gb101, 0, none⟩ = some (.int .i64 0) := (blk_cell BK101.out 0).trans rfl; have hcz47_1 : w44.cell? ⟨gb101, 1, none⟩ = some (.slice none 0 0) := (blk_cell BK101.out 1).trans rfl; have hcz47_2 : w44.cell? ⟨gb101, 2, none⟩ = some (.slice none 0 0) := (blk_cell BK101.out 2).trans rfl; have hfz47_0 := blk_frozen BK101.out 0; have hfz47_1 := blk_frozen BK101.out 1; have hfz47_2 := blk_frozen BK101.out 2; obtain ⟨Ao48, co48, eo48⟩ := Kd.R_slice HO_103001.out; subst eo48))
                refine bodyPost_ret (results_ct rfl _ _ gb101 35 #[.int .i64 (wrap64 (2 * a0)), .slice Ao48 x103001_2.length co48, .slice Ao45 y103.length co45] (0, 0) _ rfl (by (with_reducible repeat (first | refine blk_drewN ?_ _ | refine blk_drew ?_ | refine blk_alloc ?_ _)); refine blk_put (cs := #[.int .i64 (wrap64 (2 * a0)), .slice Ao48 x103001_2.length co48, .slice none 0 0]) ?_ 2 _ rfl; (with_reducible repeat (first | refine blk_drewN ?_ _ | refine blk_drew ?_ | refine blk_alloc ?_ _)); refine blk_put (cs := #[.int .i64 (wrap64 (2 * a0)), .slice none 0 0, .slice none 0 0]) ?_ 1 _ rfl; (with_reducible repeat (first | refine blk_drewN ?_ _ | refine blk_drew ?_ | refine blk_alloc ?_ _)); refine blk_put (cs := #[.int .i64 0, .slice none 0 0, .slice none 0 0]) ?_ 0 _ rfl; (with_reducible repeat (first | refine blk_drewN ?_ _ | refine blk_drew ?_ | refine blk_alloc ?_ _)); refine blk_far ?_ NB101_102.out _; (with_reducible repeat (first | refine blk_drewN ?_ _ | refine blk_drew ?_ | refine blk_alloc ?_ _)); exact BK101.out) Try.underlying35 rfl (by kernel_rfl)) rfl ?_
                exact ⟨_, _, by first | rfl | (simp [errW_none, errW_some] <;> rfl) | (simp [*, errW_none, errW_some] <;> rfl), by (with_reducible repeat (first | apply Kd.R_alloc | apply Kd.R_drewN | apply Kd.R_drew)); exact Kd.R_mono (Kd.R_far (p := ⟨gb101, 2, none⟩) (Kd.R_far (p := ⟨gb101, 1, none⟩) (Kd.R_far (p := ⟨gb101, 0, none⟩) (Kd.R_far (p := ⟨gb102, 2, none⟩) (Kd.R_types (Kd.R_types HO_103001.out BK102.out (by decide)) BK101.out (by decide)) (fun _ hk => hk.1.2) (.slice Ao45 y103.length co45)) (fun _ hk => hk.2) (.int .i64 (wrap64 (2 * a0)))) (fun _ hk => hk.2) (.slice Ao48 x103001_2.length co48)) (fun _ hk => hk.2) (.slice Ao45 y103.length co45)) (fun _ hk => trivial), by (with_reducible repeat (first | apply Kd.R_alloc | apply Kd.R_drewN | apply Kd.R_drew)); exact Kd.R_mono (Kd.R_far (p := ⟨gb101, 2, none⟩) (Kd.R_far (p := ⟨gb101, 1, none⟩) (Kd.R_far (p := ⟨gb101, 0, none⟩) (Kd.R_far (p := ⟨gb102, 2, none⟩) (Kd.R_types (Kd.R_types HO105.out BK102.out (by decide)) BK101.out (by decide)) (fun _ hk => hk.1.2) (.slice Ao45 y103.length co45)) (fun _ hk => hk.2) (.int .i64 (wrap64 (2 * a0)))) (fun _ hk => hk.2) (.slice Ao48 x103001_2.length co48)) (fun _ hk => hk.2) (.slice Ao45 y103.length co45)) (fun _ hk => trivial), by repeat (first | (with_reducible first | exact HB.out | apply below_alloc | apply pw_below_drewN | apply below_drew1 | refine below_set ?_ GE101.out | refine below_set ?_ GE102.out) | exact HB.out)⟩
              · rw [if_neg c41] at H
                exact absurd H (by simp)

end Go.Proofs.Ytaopbkbjfmfcdaa.P
