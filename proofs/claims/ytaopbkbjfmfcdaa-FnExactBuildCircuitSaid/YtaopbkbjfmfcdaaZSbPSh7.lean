/- What functions of the program come to, each with the proof that it does, laid by a program of this session out of the translation; no condition is set on any claim. -/
import Derived.Test.YtaopbkbjfmfcdaaZSbPSh0
import Derived.Test.YtaopbkbjfmfcdaaZSbPSh3
import Derived.Test.YtaopbkbjfmfcdaaZSbPSh6
namespace Go.Proofs.Ytaopbkbjfmfcdaa.P
open Go.RowKit Go.Proofs.YtaopbkbjfmfcdaaW.PrintWords Go.Proofs.YtaopbkbjfmfcdaaW.PrintLast Go.Proofs.YtaopbkbjfmfcdaaW.PrintMore
attribute [local go_sem] max2_int min2_int max_two min_two max_three min_three max_four min_four   -- for this text's walks alone
set_option linter.unusedVariables false
set_option linter.unusedSimpArgs false

/-! ### impl_carried: function 109 -/
def impl_carried.f (a0 : Int) : Option (Int × Int) := if a0 > 1 then (some (wrap64 (a0 - 3), 1)) else (if a0 < (-1) then (some (wrap64 (a0 + 3), (-1))) else (some (a0, 0)))
set_option maxHeartbeats 8000000 in
set_option maxRecDepth 100000 in
theorem impl_carried.calls (a0 : Int) (r1 : Int) (r2 : Int) (w : World) (h : impl_carried.f a0 = some (r1, r2)) :
    Calls Try.prog 109 #[.int .i64 a0] w fun e w' => e = .returned (.tuple #[.int .i64 r1, .int .i64 r2]) ∧ Drawn0 w w' := by
  have H : (if a0 > 1 then (some (wrap64 (a0 - 3), 1)) else (if a0 < (-1) then (some (wrap64 (a0 + 3), (-1))) else (some (a0, 0)))) = some (r1, r2) := h
  clear h
  by_cases c2 : a0 > 1
  · rw [if_pos c2] at H
    have c2b0 : decide (1 < a0) = true := decide_eq_true c2
    clear c2
    simp only [Option.some.injEq, Prod.mk.injEq] at H
    obtain ⟨rfl, rfl⟩ := H
    go_enter Try.func109, Try.ntmps109
    go_wp2
    go_ret2
    exact ⟨by first | rfl | (simp; done) | (simp [*]; done), by repeat (first | exact Drawn0.refl _ | apply Drawn0.step)⟩
  · rw [if_neg c2] at H
    have c2b0 : decide (1 < a0) = false := decide_eq_false c2
    clear c2
    by_cases c3 : a0 < (-1)
    · rw [if_pos c3] at H
      have c3b0 : decide (a0 < (-1)) = true := decide_eq_true c3
      clear c3
      simp only [Option.some.injEq, Prod.mk.injEq] at H
      obtain ⟨rfl, rfl⟩ := H
      go_enter Try.func109, Try.ntmps109
      go_wp2
      go_ret2
      exact ⟨by first | rfl | (simp; done) | (simp [*]; done), by repeat (first | exact Drawn0.refl _ | apply Drawn0.step)⟩
    · rw [if_neg c3] at H
      have c3b0 : decide (a0 < (-1)) = false := decide_eq_false c3
      clear c3
      simp only [Option.some.injEq, Prod.mk.injEq] at H
      obtain ⟨rfl, rfl⟩ := H
      go_enter Try.func109, Try.ntmps109
      go_wp2
      go_ret2
      exact ⟨by first | rfl | (simp; done) | (simp [*]; done), by repeat (first | exact Drawn0.refl _ | apply Drawn0.step)⟩

/-! ### impl_HalfAdd: function 97 -/
def impl_HalfAdd.f (k : Nat) (a0 : Int) (a1 : Int) : Option (Int × Int) := (impl_trits.f k (([a0, a1] : List Int))).bind fun t104 => (if t104 = true then ((impl_carried.f (wrap64 (a0 + a1))).bind fun bt105 => (some (bt105.1, bt105.2))) else (some (0, 0)))
set_option maxHeartbeats 8000000 in
set_option maxRecDepth 100000 in
theorem impl_HalfAdd.calls (k : Nat) (a0 : Int) (a1 : Int) (r1 : Int) (r2 : Int) (w : World) (h : impl_HalfAdd.f k a0 a1 = some (r1, r2)) :
    Calls Try.prog 97 #[.int .i64 a0, .int .i64 a1] w fun e w' => e = .returned (.tuple #[.int .i64 r1, .int .i64 r2]) ∧ Below w.heap.size w w' := by
  have HB := Aside0.mk (Below.refl w.heap.size w)
  have H : ((impl_trits.f k (([a0, a1] : List Int))).bind fun t104 => (if t104 = true then ((impl_carried.f (wrap64 (a0 + a1))).bind fun bt105 => (some (bt105.1, bt105.2))) else (some (0, 0)))) = some (r1, r2) := h
  clear h
  obtain ⟨y101, hy101⟩ : ∃ y_ : List Int, y_ = (([a0, a1] : List Int)) := ⟨_, rfl⟩
  replace H : ((impl_trits.f k y101).bind fun t104 => (if t104 = true then ((impl_carried.f (wrap64 (a0 + a1))).bind fun bt105 => (some (bt105.1, bt105.2))) else (some (0, 0)))) = some (r1, r2) := by first | (rw [hy101]; with_reducible exact H) | (have H2_ := (Option.bind_some _ _).symm.trans H; rw [hy101]; with_reducible exact H2_) | (have H2_ := (Option.bind_some _ _).symm.trans H; with_reducible exact H2_) | with_reducible exact H | (rw [hy101]; exact H) | exact H
  have Ny101 := Aside0.mk hy101
  clear hy101
  replace H := Option.bind_eq_some_iff.mp H
  obtain ⟨t104, A30, H⟩ := H
  replace H : (if t104 = true then ((impl_carried.f (wrap64 (a0 + a1))).bind fun bt105 => (some (bt105.1, bt105.2))) else (some (0, 0))) = some (r1, r2) := H
  have A3 := Aside0.mk A30
  clear A30
  by_cases c4 : t104 = true
  · subst c4
    have H1 : ((impl_carried.f (wrap64 (a0 + a1))).bind fun bt105 => (some (bt105.1, bt105.2))) = some (r1, r2) := by rw [if_pos rfl] at H; exact H
    clear H
    have H := H1
    clear H1
    replace H := Option.bind_eq_some_iff.mp H
    obtain ⟨⟨t105, t106⟩, A50, H⟩ := H
    replace H : (some (t105, t106)) = some (r1, r2) := H
    have A5 := Aside0.mk A50
    clear A50
    simp only [Option.some.injEq, Prod.mk.injEq] at H
    obtain ⟨rfl, rfl⟩ := H
    go_enter Try.func97, Try.ntmps97
    go_wp2_with (first | ((with_reducible refine gate_dst (N := 8) rfl ?_); refine Kd.R_lit (Kd.int .i64) _ 3 ?hg (N := 8) ?hd (xs := ([a0, a1] : List Int)) (inner := [.int .i64 a0, .int .i64 a1]) (ok := fun _ => True) (okp := fun _ => True) ?hr ?hp (fun _ hk => hk) trivial (Below.refl _ _) (Nat.le_refl _) (by simp) ?_; (case hd => rfl); (case hg => rfl); (case hr => first | (go_simp; done) | (go_simp; rfl)); (case hp => exact (Reps.one (show Kd.M (Kd.int .i64) _ _ _ a0 [.int .i64 a0] from rfl) (Reps.one (show Kd.M (Kd.int .i64) _ _ _ a1 [.int .i64 a1] from rfl) (Reps.none _ _)))); intro v102 w6 ho7 hb hg_ hnew_; clear hg_ hnew_; (first | rw [← Ny101.out] at ho7 | (simp only [Int.reduceToNat] at ho7; rw [← Ny101.out] at ho7)); have n0_ := Aside0.mk (Kd.R_lower ho7 (below_size (by repeat (first | (with_reducible first | exact HB.out | apply below_alloc | apply pw_below_drewN | apply below_drew1) | exact HB.out)))); have n1_ := Aside0.mk (below_step (by repeat (first | (with_reducible first | exact HB.out | apply below_alloc | apply pw_below_drewN | apply below_drew1) | exact HB.out)) hb); clear HB; have HO103 := n0_; have HB := n1_; clear n0_ n1_; clear hb ho7; obtain ⟨Ao8, co8, eo8⟩ := Kd.R_slice HO103.out; subst eo8) | ((with_reducible refine gate_callee (f := 65) rfl ?_); refine goesL_ (some 9) rfl rfl Try.func65 (by kernel_rfl) rfl #[.slice Ao8 y101.length co8] rfl (by (try simp only [List.map_toArray, List.map_cons, List.map_nil]); first | done | rfl | (simp only [List.length_drop, List.length_take]; rfl)) ?_; (with_reducible refine (impl_trits.calls k _ _ y101 true _ ?side1 ?side2 A3.out).mono ?_); (case side1 => repeat (first | exact (Kd.R_reads' HO103.out).2.2 | (with_reducible refine Kd.C_alloc ?_ _) | (with_reducible refine Kd.C_drewN ?_ _) | (with_reducible refine Kd.C_drew ?_))); (case side2 => exact (Kd.R_reads' HO103.out).2.1); rintro e w' ⟨rfl, ⟨nd, rfl⟩⟩; refine ⟨_, rfl, ?_⟩) | ((with_reducible refine gate_callee (f := 109) rfl ?_); refine goesL_ (some 14) rfl rfl Try.func109 (by kernel_rfl) rfl #[.int .i64 (wrap64 (a0 + a1))] rfl (by (try simp only [List.map_toArray, List.map_cons, List.map_nil]); first | done | rfl | (simp only [List.length_drop, List.length_take]; rfl)) ?_; (with_reducible refine (impl_carried.calls (wrap64 (a0 + a1)) t105 t106 _ A5.out).mono ?_); rintro e w' ⟨rfl, ⟨nd, rfl⟩⟩; refine ⟨_, rfl, ?_⟩))
    go_ret2
    exact ⟨by first | rfl | (simp [errW_none, errW_some] <;> rfl) | (simp [*, errW_none, errW_some] <;> rfl), by repeat (first | (with_reducible first | exact HB.out | apply below_alloc | apply pw_below_drewN | apply below_drew1) | exact HB.out)⟩
  · replace c4 := Bool.eq_false_iff.mpr c4
    subst c4
    have H1 : (some (0, 0)) = some (r1, r2) := by rw [if_neg (show ¬ (false = true) by decide)] at H; exact H
    clear H
    have H := H1
    clear H1
    simp only [Option.some.injEq, Prod.mk.injEq] at H
    obtain ⟨rfl, rfl⟩ := H
    go_enter Try.func97, Try.ntmps97
    go_wp2_with (first | ((with_reducible refine gate_dst (N := 8) rfl ?_); refine Kd.R_lit (Kd.int .i64) _ 3 ?hg (N := 8) ?hd (xs := ([a0, a1] : List Int)) (inner := [.int .i64 a0, .int .i64 a1]) (ok := fun _ => True) (okp := fun _ => True) ?hr ?hp (fun _ hk => hk) trivial (Below.refl _ _) (Nat.le_refl _) (by simp) ?_; (case hd => rfl); (case hg => rfl); (case hr => first | (go_simp; done) | (go_simp; rfl)); (case hp => exact (Reps.one (show Kd.M (Kd.int .i64) _ _ _ a0 [.int .i64 a0] from rfl) (Reps.one (show Kd.M (Kd.int .i64) _ _ _ a1 [.int .i64 a1] from rfl) (Reps.none _ _)))); intro v102 w9 ho10 hb hg_ hnew_; clear hg_ hnew_; (first | rw [← Ny101.out] at ho10 | (simp only [Int.reduceToNat] at ho10; rw [← Ny101.out] at ho10)); have n0_ := Aside0.mk (Kd.R_lower ho10 (below_size (by repeat (first | (with_reducible first | exact HB.out | apply below_alloc | apply pw_below_drewN | apply below_drew1) | exact HB.out)))); have n1_ := Aside0.mk (below_step (by repeat (first | (with_reducible first | exact HB.out | apply below_alloc | apply pw_below_drewN | apply below_drew1) | exact HB.out)) hb); clear HB; have HO103 := n0_; have HB := n1_; clear n0_ n1_; clear hb ho10; obtain ⟨Ao11, co11, eo11⟩ := Kd.R_slice HO103.out; subst eo11) | ((with_reducible refine gate_callee (f := 65) rfl ?_); refine goesL_ (some 9) rfl rfl Try.func65 (by kernel_rfl) rfl #[.slice Ao11 y101.length co11] rfl (by (try simp only [List.map_toArray, List.map_cons, List.map_nil]); first | done | rfl | (simp only [List.length_drop, List.length_take]; rfl)) ?_; (with_reducible refine (impl_trits.calls k _ _ y101 false _ ?side1 ?side2 A3.out).mono ?_); (case side1 => repeat (first | exact (Kd.R_reads' HO103.out).2.2 | (with_reducible refine Kd.C_alloc ?_ _) | (with_reducible refine Kd.C_drewN ?_ _) | (with_reducible refine Kd.C_drew ?_))); (case side2 => exact (Kd.R_reads' HO103.out).2.1); rintro e w' ⟨rfl, ⟨nd, rfl⟩⟩; refine ⟨_, rfl, ?_⟩))
    go_ret2
    exact ⟨by first | rfl | (simp [errW_none, errW_some] <;> rfl) | (simp [*, errW_none, errW_some] <;> rfl), by repeat (first | (with_reducible first | exact HB.out | apply below_alloc | apply pw_below_drewN | apply below_drew1) | exact HB.out)⟩

/-! ### impl_TableOf: function 78 -/
def anyv (a b : Int) : Int := if a + b < 0 then -1 else if a + b > 0 then 1 else 0
def sumv (a b : Int) : Int := if a + b > 1 then a + b - 3 else if a + b < -1 then a + b + 3 else a + b
def carv (a b : Int) : Int := if a + b > 1 then 1 else if a + b < -1 then -1 else 0
theorem two_trits (a b : Int) (ha0 : -1 ≤ a) (ha1 : a ≤ 1) (hb0 : -1 ≤ b) (hb1 : b ≤ 1) : impl_trits.f 10 [a, b] = some true := by
  have e : impl_trits.f 10 [a, b] = some (isT9 [a, b]) := impl_trits_go [a, b] (by simp) 2 10 0 rfl (by omega)
  have q1 : trB a = true := by unfold trB; simp [ha0, ha1]
  have q2 : trB b = true := by unfold trB; simp [hb0, hb1]
  rw [e]
  simp [isT9, q1, q2]
theorem min_nine (a b : Int) (ha0 : -1 ≤ a) (ha1 : a ≤ 1) (hb0 : -1 ≤ b) (hb1 : b ≤ 1) : impl_MinTrits.f 10 a b = some (mn a b) := by
  unfold impl_MinTrits.f
  rw [two_trits a b ha0 ha1 hb0 hb1, bindS, if_pos rfl]
theorem max_nine (a b : Int) (ha0 : -1 ≤ a) (ha1 : a ≤ 1) (hb0 : -1 ≤ b) (hb1 : b ≤ 1) : impl_MaxTrits.f 10 a b = some (mx a b) := by
  unfold impl_MaxTrits.f
  rw [two_trits a b ha0 ha1 hb0 hb1, bindS, if_pos rfl]
theorem any_nine (a b : Int) (ha0 : -1 ≤ a) (ha1 : a ≤ 1) (hb0 : -1 ≤ b) (hb1 : b ≤ 1) : impl_AnyTrits.f 10 a b = some (anyv a b) := by
  unfold impl_AnyTrits.f impl_SignOf.f anyv
  have w1 : wrap64 (a + b) = a + b := by unfold wrap64; omega
  rw [two_trits a b ha0 ha1 hb0 hb1, bindS, if_pos rfl, w1]
  by_cases c : a + b < 0
  · simp only [if_pos c]; rfl
  · simp only [if_neg c]
    by_cases d : a + b > 0
    · simp only [if_pos d]; rfl
    · simp only [if_neg d]; rfl
theorem half_nine (a b : Int) (ha0 : -1 ≤ a) (ha1 : a ≤ 1) (hb0 : -1 ≤ b) (hb1 : b ≤ 1) : impl_HalfAdd.f 10 a b = some (sumv a b, carv a b) := by
  unfold impl_HalfAdd.f impl_carried.f sumv carv
  have w1 : wrap64 (a + b) = a + b := by unfold wrap64; omega
  have w2 : wrap64 (a + b - 3) = a + b - 3 := by unfold wrap64; omega
  have w3 : wrap64 (a + b + 3) = a + b + 3 := by unfold wrap64; omega
  rw [two_trits a b ha0 ha1 hb0 hb1, bindS, if_pos rfl, w1]
  simp only [w2, w3]
  by_cases c : a + b > 1
  · simp only [if_pos c]; rfl
  · simp only [if_neg c]
    by_cases d : a + b < -1
    · simp only [if_pos d]; rfl
    · simp only [if_neg d]; rfl
theorem sum_clo (a b : Int) (w : World) (ha0 : -1 ≤ a) (ha1 : a ≤ 1) (hb0 : -1 ≤ b) (hb1 : b ≤ 1) :
    Calls Try.prog 96 #[.int .i64 a, .int .i64 b] w fun e w' => e = .returned (.int .i64 (sumv a b)) ∧ Below w.heap.size w w' := by
  have HB := Aside0.mk (Below.refl w.heap.size w)
  have HL := Aside0.mk (half_nine a b ha0 ha1 hb0 hb1)
  generalize sumv a b = s at *
  generalize carv a b = c at *
  clear ha0 ha1 hb0 hb1
  go_enter Try.func96, Try.ntmps96
  go_wp2_with (go_at_call 97; (refine (impl_HalfAdd.calls 10 a b s c _ HL.out).mono ?_); rintro e w2 ⟨rfl, hb⟩; have HB2 := Aside0.mk (show Below w.heap.size w w2 from below_step (bB HB.out) hb); clear hb)
  go_ret
  exact ⟨rfl, by repeat (first | (with_reducible first | exact HB2.out | apply below_alloc | apply pw_below_drewN | apply below_drew1) | exact HB2.out)⟩
theorem carry_clo (a b : Int) (w : World) (ha0 : -1 ≤ a) (ha1 : a ≤ 1) (hb0 : -1 ≤ b) (hb1 : b ≤ 1) :
    Calls Try.prog 98 #[.int .i64 a, .int .i64 b] w fun e w' => e = .returned (.int .i64 (carv a b)) ∧ Below w.heap.size w w' := by
  have HB := Aside0.mk (Below.refl w.heap.size w)
  have HL := Aside0.mk (half_nine a b ha0 ha1 hb0 hb1)
  generalize sumv a b = s at *
  generalize carv a b = c at *
  clear ha0 ha1 hb0 hb1
  go_enter Try.func98, Try.ntmps98
  go_wp2_with (go_at_call 97; (refine (impl_HalfAdd.calls 10 a b s c _ HL.out).mono ?_); rintro e w2 ⟨rfl, hb⟩; have HB2 := Aside0.mk (show Below w.heap.size w w2 from below_step (bB HB.out) hb); clear hb)
  go_ret
  exact ⟨rfl, by repeat (first | (with_reducible first | exact HB2.out | apply below_alloc | apply pw_below_drewN | apply below_drew1) | exact HB2.out)⟩
def impl_TableOf.f (a0 : ByteArray) : Option (Int × Int × Int × Int × Int × Int × Int × Int × Int) := if a0 = (⟨#[115, 117, 109]⟩ : ByteArray) then some ((sumv (-1) (-1)), (sumv (-1) 0), (sumv (-1) 1), (sumv 0 (-1)), (sumv 0 0), (sumv 0 1), (sumv 1 (-1)), (sumv 1 0), (sumv 1 1)) else if a0 = (⟨#[99, 97, 114, 114, 121]⟩ : ByteArray) then some ((carv (-1) (-1)), (carv (-1) 0), (carv (-1) 1), (carv 0 (-1)), (carv 0 0), (carv 0 1), (carv 1 (-1)), (carv 1 0), (carv 1 1)) else if a0 = (⟨#[97, 110, 121]⟩ : ByteArray) then some ((anyv (-1) (-1)), (anyv (-1) 0), (anyv (-1) 1), (anyv 0 (-1)), (anyv 0 0), (anyv 0 1), (anyv 1 (-1)), (anyv 1 0), (anyv 1 1)) else if a0 = (⟨#[109, 105, 110]⟩ : ByteArray) then some ((mn (-1) (-1)), (mn (-1) 0), (mn (-1) 1), (mn 0 (-1)), (mn 0 0), (mn 0 1), (mn 1 (-1)), (mn 1 0), (mn 1 1)) else if a0 = (⟨#[109, 97, 120]⟩ : ByteArray) then some ((mx (-1) (-1)), (mx (-1) 0), (mx (-1) 1), (mx 0 (-1)), (mx 0 0), (mx 0 1), (mx 1 (-1)), (mx 1 0), (mx 1 1)) else none
set_option maxHeartbeats 8000000 in
set_option maxRecDepth 100000 in
theorem tableOf_sum (w : World) :
    Calls Try.prog 78 #[.string (⟨#[115, 117, 109]⟩ : ByteArray)] w fun e w' => e = .returned (.agg #[.int .i64 (sumv (-1) (-1)), .int .i64 (sumv (-1) 0), .int .i64 (sumv (-1) 1), .int .i64 (sumv 0 (-1)), .int .i64 (sumv 0 0), .int .i64 (sumv 0 1), .int .i64 (sumv 1 (-1)), .int .i64 (sumv 1 0), .int .i64 (sumv 1 1)]) ∧ Below w.heap.size w w' := by
  have HB := Aside0.mk (Below.refl w.heap.size w)
  go_enter Try.func78, Try.ntmps78
  go_wp2_with (go_at_call 51; (refine (tabled_any 96 _ #[] sumv _ Try.func96 rfl (by kernel_rfl) ?s1).mono ?_); (case s1 => intro a b W hW q0 q1 q2 q3; exact sum_clo a b W q0 q1 q2 q3); rintro e w2 ⟨rfl, hb⟩; have BKr := Aside0.mk (show w2.heap[w.heap.size]? = some (.cells #[.int .i64 0, .int .i64 0, .int .i64 0, .int .i64 0, .int .i64 0, .int .i64 0, .int .i64 0, .int .i64 0, .int .i64 0] 23 (0, 0)) from blk_below (blk_new _ _) hb); have HB2 := Aside0.mk (below_step (show Below w.heap.size w _ from by repeat (first | (with_reducible first | exact HB.out | apply below_alloc | apply pw_below_drewN | apply below_drew1) | exact HB.out)) hb); have hs0 : w2.cell? ⟨w.heap.size, 0, none⟩ = some (.int .i64 0) := (blk_cell BKr.out 0).trans rfl; have hf0 := blk_frozen BKr.out 0; have hs1 : w2.cell? ⟨w.heap.size, 1, none⟩ = some (.int .i64 0) := (blk_cell BKr.out 1).trans rfl; have hf1 := blk_frozen BKr.out 1; have hs2 : w2.cell? ⟨w.heap.size, 2, none⟩ = some (.int .i64 0) := (blk_cell BKr.out 2).trans rfl; have hf2 := blk_frozen BKr.out 2; have hs3 : w2.cell? ⟨w.heap.size, 3, none⟩ = some (.int .i64 0) := (blk_cell BKr.out 3).trans rfl; have hf3 := blk_frozen BKr.out 3; have hs4 : w2.cell? ⟨w.heap.size, 4, none⟩ = some (.int .i64 0) := (blk_cell BKr.out 4).trans rfl; have hf4 := blk_frozen BKr.out 4; have hs5 : w2.cell? ⟨w.heap.size, 5, none⟩ = some (.int .i64 0) := (blk_cell BKr.out 5).trans rfl; have hf5 := blk_frozen BKr.out 5; have hs6 : w2.cell? ⟨w.heap.size, 6, none⟩ = some (.int .i64 0) := (blk_cell BKr.out 6).trans rfl; have hf6 := blk_frozen BKr.out 6; have hs7 : w2.cell? ⟨w.heap.size, 7, none⟩ = some (.int .i64 0) := (blk_cell BKr.out 7).trans rfl; have hf7 := blk_frozen BKr.out 7; have hs8 : w2.cell? ⟨w.heap.size, 8, none⟩ = some (.int .i64 0) := (blk_cell BKr.out 8).trans rfl; have hf8 := blk_frozen BKr.out 8; clear hb)
  refine bodyPost_ret (v := .agg #[.int .i64 (sumv (-1) (-1)), .int .i64 (sumv (-1) 0), .int .i64 (sumv (-1) 1), .int .i64 (sumv 0 (-1)), .int .i64 (sumv 0 0), .int .i64 (sumv 0 1), .int .i64 (sumv 1 (-1)), .int .i64 (sumv 1 0), .int .i64 (sumv 1 1)]) ?hr rfl ?_; (case hr => refine results_cell_row rfl _ _ (w.heap.size) 23 #[.int .i64 (sumv (-1) (-1)), .int .i64 (sumv (-1) 0), .int .i64 (sumv (-1) 1), .int .i64 (sumv 0 (-1)), .int .i64 (sumv 0 0), .int .i64 (sumv 0 1), .int .i64 (sumv 1 (-1)), .int .i64 (sumv 1 0), .int .i64 (sumv 1 1)] (0, 0) _ rfl ?hg Try.underlying23 rfl (by kernel_rfl); (case hg => refine blk_put (cs := #[.int .i64 (sumv (-1) (-1)), .int .i64 (sumv (-1) 0), .int .i64 (sumv (-1) 1), .int .i64 (sumv 0 (-1)), .int .i64 (sumv 0 0), .int .i64 (sumv 0 1), .int .i64 (sumv 1 (-1)), .int .i64 (sumv 1 0), .int .i64 0]) ?_ 8 (.int .i64 (sumv 1 1)) rfl; refine blk_put (cs := #[.int .i64 (sumv (-1) (-1)), .int .i64 (sumv (-1) 0), .int .i64 (sumv (-1) 1), .int .i64 (sumv 0 (-1)), .int .i64 (sumv 0 0), .int .i64 (sumv 0 1), .int .i64 (sumv 1 (-1)), .int .i64 0, .int .i64 0]) ?_ 7 (.int .i64 (sumv 1 0)) rfl; refine blk_put (cs := #[.int .i64 (sumv (-1) (-1)), .int .i64 (sumv (-1) 0), .int .i64 (sumv (-1) 1), .int .i64 (sumv 0 (-1)), .int .i64 (sumv 0 0), .int .i64 (sumv 0 1), .int .i64 0, .int .i64 0, .int .i64 0]) ?_ 6 (.int .i64 (sumv 1 (-1))) rfl; refine blk_put (cs := #[.int .i64 (sumv (-1) (-1)), .int .i64 (sumv (-1) 0), .int .i64 (sumv (-1) 1), .int .i64 (sumv 0 (-1)), .int .i64 (sumv 0 0), .int .i64 0, .int .i64 0, .int .i64 0, .int .i64 0]) ?_ 5 (.int .i64 (sumv 0 1)) rfl; refine blk_put (cs := #[.int .i64 (sumv (-1) (-1)), .int .i64 (sumv (-1) 0), .int .i64 (sumv (-1) 1), .int .i64 (sumv 0 (-1)), .int .i64 0, .int .i64 0, .int .i64 0, .int .i64 0, .int .i64 0]) ?_ 4 (.int .i64 (sumv 0 0)) rfl; refine blk_put (cs := #[.int .i64 (sumv (-1) (-1)), .int .i64 (sumv (-1) 0), .int .i64 (sumv (-1) 1), .int .i64 0, .int .i64 0, .int .i64 0, .int .i64 0, .int .i64 0, .int .i64 0]) ?_ 3 (.int .i64 (sumv 0 (-1))) rfl; refine blk_put (cs := #[.int .i64 (sumv (-1) (-1)), .int .i64 (sumv (-1) 0), .int .i64 0, .int .i64 0, .int .i64 0, .int .i64 0, .int .i64 0, .int .i64 0, .int .i64 0]) ?_ 2 (.int .i64 (sumv (-1) 1)) rfl; refine blk_put (cs := #[.int .i64 (sumv (-1) (-1)), .int .i64 0, .int .i64 0, .int .i64 0, .int .i64 0, .int .i64 0, .int .i64 0, .int .i64 0, .int .i64 0]) ?_ 1 (.int .i64 (sumv (-1) 0)) rfl; refine blk_put (cs := #[.int .i64 0, .int .i64 0, .int .i64 0, .int .i64 0, .int .i64 0, .int .i64 0, .int .i64 0, .int .i64 0, .int .i64 0]) ?_ 0 (.int .i64 (sumv (-1) (-1))) rfl; exact BKr.out))
  exact ⟨rfl, below_set (below_set (below_set (below_set (below_set (below_set (below_set (below_set (below_set (HB2.out) (Nat.le_refl _)) (Nat.le_refl _)) (Nat.le_refl _)) (Nat.le_refl _)) (Nat.le_refl _)) (Nat.le_refl _)) (Nat.le_refl _)) (Nat.le_refl _)) (Nat.le_refl _)⟩
set_option maxHeartbeats 8000000 in
set_option maxRecDepth 100000 in
theorem tableOf_carry (w : World) :
    Calls Try.prog 78 #[.string (⟨#[99, 97, 114, 114, 121]⟩ : ByteArray)] w fun e w' => e = .returned (.agg #[.int .i64 (carv (-1) (-1)), .int .i64 (carv (-1) 0), .int .i64 (carv (-1) 1), .int .i64 (carv 0 (-1)), .int .i64 (carv 0 0), .int .i64 (carv 0 1), .int .i64 (carv 1 (-1)), .int .i64 (carv 1 0), .int .i64 (carv 1 1)]) ∧ Below w.heap.size w w' := by
  have HB := Aside0.mk (Below.refl w.heap.size w)
  go_enter Try.func78, Try.ntmps78
  go_wp2_with (go_at_call 51; (refine (tabled_any 98 _ #[] carv _ Try.func98 rfl (by kernel_rfl) ?s1).mono ?_); (case s1 => intro a b W hW q0 q1 q2 q3; exact carry_clo a b W q0 q1 q2 q3); rintro e w2 ⟨rfl, hb⟩; have BKr := Aside0.mk (show w2.heap[w.heap.size]? = some (.cells #[.int .i64 0, .int .i64 0, .int .i64 0, .int .i64 0, .int .i64 0, .int .i64 0, .int .i64 0, .int .i64 0, .int .i64 0] 23 (0, 0)) from blk_below (blk_new _ _) hb); have HB2 := Aside0.mk (below_step (show Below w.heap.size w _ from by repeat (first | (with_reducible first | exact HB.out | apply below_alloc | apply pw_below_drewN | apply below_drew1) | exact HB.out)) hb); have hs0 : w2.cell? ⟨w.heap.size, 0, none⟩ = some (.int .i64 0) := (blk_cell BKr.out 0).trans rfl; have hf0 := blk_frozen BKr.out 0; have hs1 : w2.cell? ⟨w.heap.size, 1, none⟩ = some (.int .i64 0) := (blk_cell BKr.out 1).trans rfl; have hf1 := blk_frozen BKr.out 1; have hs2 : w2.cell? ⟨w.heap.size, 2, none⟩ = some (.int .i64 0) := (blk_cell BKr.out 2).trans rfl; have hf2 := blk_frozen BKr.out 2; have hs3 : w2.cell? ⟨w.heap.size, 3, none⟩ = some (.int .i64 0) := (blk_cell BKr.out 3).trans rfl; have hf3 := blk_frozen BKr.out 3; have hs4 : w2.cell? ⟨w.heap.size, 4, none⟩ = some (.int .i64 0) := (blk_cell BKr.out 4).trans rfl; have hf4 := blk_frozen BKr.out 4; have hs5 : w2.cell? ⟨w.heap.size, 5, none⟩ = some (.int .i64 0) := (blk_cell BKr.out 5).trans rfl; have hf5 := blk_frozen BKr.out 5; have hs6 : w2.cell? ⟨w.heap.size, 6, none⟩ = some (.int .i64 0) := (blk_cell BKr.out 6).trans rfl; have hf6 := blk_frozen BKr.out 6; have hs7 : w2.cell? ⟨w.heap.size, 7, none⟩ = some (.int .i64 0) := (blk_cell BKr.out 7).trans rfl; have hf7 := blk_frozen BKr.out 7; have hs8 : w2.cell? ⟨w.heap.size, 8, none⟩ = some (.int .i64 0) := (blk_cell BKr.out 8).trans rfl; have hf8 := blk_frozen BKr.out 8; clear hb)
  refine bodyPost_ret (v := .agg #[.int .i64 (carv (-1) (-1)), .int .i64 (carv (-1) 0), .int .i64 (carv (-1) 1), .int .i64 (carv 0 (-1)), .int .i64 (carv 0 0), .int .i64 (carv 0 1), .int .i64 (carv 1 (-1)), .int .i64 (carv 1 0), .int .i64 (carv 1 1)]) ?hr rfl ?_; (case hr => refine results_cell_row rfl _ _ (w.heap.size) 23 #[.int .i64 (carv (-1) (-1)), .int .i64 (carv (-1) 0), .int .i64 (carv (-1) 1), .int .i64 (carv 0 (-1)), .int .i64 (carv 0 0), .int .i64 (carv 0 1), .int .i64 (carv 1 (-1)), .int .i64 (carv 1 0), .int .i64 (carv 1 1)] (0, 0) _ rfl ?hg Try.underlying23 rfl (by kernel_rfl); (case hg => refine blk_put (cs := #[.int .i64 (carv (-1) (-1)), .int .i64 (carv (-1) 0), .int .i64 (carv (-1) 1), .int .i64 (carv 0 (-1)), .int .i64 (carv 0 0), .int .i64 (carv 0 1), .int .i64 (carv 1 (-1)), .int .i64 (carv 1 0), .int .i64 0]) ?_ 8 (.int .i64 (carv 1 1)) rfl; refine blk_put (cs := #[.int .i64 (carv (-1) (-1)), .int .i64 (carv (-1) 0), .int .i64 (carv (-1) 1), .int .i64 (carv 0 (-1)), .int .i64 (carv 0 0), .int .i64 (carv 0 1), .int .i64 (carv 1 (-1)), .int .i64 0, .int .i64 0]) ?_ 7 (.int .i64 (carv 1 0)) rfl; refine blk_put (cs := #[.int .i64 (carv (-1) (-1)), .int .i64 (carv (-1) 0), .int .i64 (carv (-1) 1), .int .i64 (carv 0 (-1)), .int .i64 (carv 0 0), .int .i64 (carv 0 1), .int .i64 0, .int .i64 0, .int .i64 0]) ?_ 6 (.int .i64 (carv 1 (-1))) rfl; refine blk_put (cs := #[.int .i64 (carv (-1) (-1)), .int .i64 (carv (-1) 0), .int .i64 (carv (-1) 1), .int .i64 (carv 0 (-1)), .int .i64 (carv 0 0), .int .i64 0, .int .i64 0, .int .i64 0, .int .i64 0]) ?_ 5 (.int .i64 (carv 0 1)) rfl; refine blk_put (cs := #[.int .i64 (carv (-1) (-1)), .int .i64 (carv (-1) 0), .int .i64 (carv (-1) 1), .int .i64 (carv 0 (-1)), .int .i64 0, .int .i64 0, .int .i64 0, .int .i64 0, .int .i64 0]) ?_ 4 (.int .i64 (carv 0 0)) rfl; refine blk_put (cs := #[.int .i64 (carv (-1) (-1)), .int .i64 (carv (-1) 0), .int .i64 (carv (-1) 1), .int .i64 0, .int .i64 0, .int .i64 0, .int .i64 0, .int .i64 0, .int .i64 0]) ?_ 3 (.int .i64 (carv 0 (-1))) rfl; refine blk_put (cs := #[.int .i64 (carv (-1) (-1)), .int .i64 (carv (-1) 0), .int .i64 0, .int .i64 0, .int .i64 0, .int .i64 0, .int .i64 0, .int .i64 0, .int .i64 0]) ?_ 2 (.int .i64 (carv (-1) 1)) rfl; refine blk_put (cs := #[.int .i64 (carv (-1) (-1)), .int .i64 0, .int .i64 0, .int .i64 0, .int .i64 0, .int .i64 0, .int .i64 0, .int .i64 0, .int .i64 0]) ?_ 1 (.int .i64 (carv (-1) 0)) rfl; refine blk_put (cs := #[.int .i64 0, .int .i64 0, .int .i64 0, .int .i64 0, .int .i64 0, .int .i64 0, .int .i64 0, .int .i64 0, .int .i64 0]) ?_ 0 (.int .i64 (carv (-1) (-1))) rfl; exact BKr.out))
  exact ⟨rfl, below_set (below_set (below_set (below_set (below_set (below_set (below_set (below_set (below_set (HB2.out) (Nat.le_refl _)) (Nat.le_refl _)) (Nat.le_refl _)) (Nat.le_refl _)) (Nat.le_refl _)) (Nat.le_refl _)) (Nat.le_refl _)) (Nat.le_refl _)) (Nat.le_refl _)⟩
set_option maxHeartbeats 8000000 in
set_option maxRecDepth 100000 in
theorem tableOf_any (w : World) :
    Calls Try.prog 78 #[.string (⟨#[97, 110, 121]⟩ : ByteArray)] w fun e w' => e = .returned (.agg #[.int .i64 (anyv (-1) (-1)), .int .i64 (anyv (-1) 0), .int .i64 (anyv (-1) 1), .int .i64 (anyv 0 (-1)), .int .i64 (anyv 0 0), .int .i64 (anyv 0 1), .int .i64 (anyv 1 (-1)), .int .i64 (anyv 1 0), .int .i64 (anyv 1 1)]) ∧ Below w.heap.size w w' := by
  have HB := Aside0.mk (Below.refl w.heap.size w)
  go_enter Try.func78, Try.ntmps78
  go_wp2_with (go_at_call 51; (refine (tabled_any 94 _ #[] anyv _ Try.func94 rfl (by kernel_rfl) ?s1).mono ?_); (case s1 => intro a b W hW q0 q1 q2 q3; exact impl_AnyTrits.calls 10 a b _ W (any_nine a b q0 q1 q2 q3)); rintro e w2 ⟨rfl, hb⟩; have BKr := Aside0.mk (show w2.heap[w.heap.size]? = some (.cells #[.int .i64 0, .int .i64 0, .int .i64 0, .int .i64 0, .int .i64 0, .int .i64 0, .int .i64 0, .int .i64 0, .int .i64 0] 23 (0, 0)) from blk_below (blk_new _ _) hb); have HB2 := Aside0.mk (below_step (show Below w.heap.size w _ from by repeat (first | (with_reducible first | exact HB.out | apply below_alloc | apply pw_below_drewN | apply below_drew1) | exact HB.out)) hb); have hs0 : w2.cell? ⟨w.heap.size, 0, none⟩ = some (.int .i64 0) := (blk_cell BKr.out 0).trans rfl; have hf0 := blk_frozen BKr.out 0; have hs1 : w2.cell? ⟨w.heap.size, 1, none⟩ = some (.int .i64 0) := (blk_cell BKr.out 1).trans rfl; have hf1 := blk_frozen BKr.out 1; have hs2 : w2.cell? ⟨w.heap.size, 2, none⟩ = some (.int .i64 0) := (blk_cell BKr.out 2).trans rfl; have hf2 := blk_frozen BKr.out 2; have hs3 : w2.cell? ⟨w.heap.size, 3, none⟩ = some (.int .i64 0) := (blk_cell BKr.out 3).trans rfl; have hf3 := blk_frozen BKr.out 3; have hs4 : w2.cell? ⟨w.heap.size, 4, none⟩ = some (.int .i64 0) := (blk_cell BKr.out 4).trans rfl; have hf4 := blk_frozen BKr.out 4; have hs5 : w2.cell? ⟨w.heap.size, 5, none⟩ = some (.int .i64 0) := (blk_cell BKr.out 5).trans rfl; have hf5 := blk_frozen BKr.out 5; have hs6 : w2.cell? ⟨w.heap.size, 6, none⟩ = some (.int .i64 0) := (blk_cell BKr.out 6).trans rfl; have hf6 := blk_frozen BKr.out 6; have hs7 : w2.cell? ⟨w.heap.size, 7, none⟩ = some (.int .i64 0) := (blk_cell BKr.out 7).trans rfl; have hf7 := blk_frozen BKr.out 7; have hs8 : w2.cell? ⟨w.heap.size, 8, none⟩ = some (.int .i64 0) := (blk_cell BKr.out 8).trans rfl; have hf8 := blk_frozen BKr.out 8; clear hb)
  refine bodyPost_ret (v := .agg #[.int .i64 (anyv (-1) (-1)), .int .i64 (anyv (-1) 0), .int .i64 (anyv (-1) 1), .int .i64 (anyv 0 (-1)), .int .i64 (anyv 0 0), .int .i64 (anyv 0 1), .int .i64 (anyv 1 (-1)), .int .i64 (anyv 1 0), .int .i64 (anyv 1 1)]) ?hr rfl ?_; (case hr => refine results_cell_row rfl _ _ (w.heap.size) 23 #[.int .i64 (anyv (-1) (-1)), .int .i64 (anyv (-1) 0), .int .i64 (anyv (-1) 1), .int .i64 (anyv 0 (-1)), .int .i64 (anyv 0 0), .int .i64 (anyv 0 1), .int .i64 (anyv 1 (-1)), .int .i64 (anyv 1 0), .int .i64 (anyv 1 1)] (0, 0) _ rfl ?hg Try.underlying23 rfl (by kernel_rfl); (case hg => refine blk_put (cs := #[.int .i64 (anyv (-1) (-1)), .int .i64 (anyv (-1) 0), .int .i64 (anyv (-1) 1), .int .i64 (anyv 0 (-1)), .int .i64 (anyv 0 0), .int .i64 (anyv 0 1), .int .i64 (anyv 1 (-1)), .int .i64 (anyv 1 0), .int .i64 0]) ?_ 8 (.int .i64 (anyv 1 1)) rfl; refine blk_put (cs := #[.int .i64 (anyv (-1) (-1)), .int .i64 (anyv (-1) 0), .int .i64 (anyv (-1) 1), .int .i64 (anyv 0 (-1)), .int .i64 (anyv 0 0), .int .i64 (anyv 0 1), .int .i64 (anyv 1 (-1)), .int .i64 0, .int .i64 0]) ?_ 7 (.int .i64 (anyv 1 0)) rfl; refine blk_put (cs := #[.int .i64 (anyv (-1) (-1)), .int .i64 (anyv (-1) 0), .int .i64 (anyv (-1) 1), .int .i64 (anyv 0 (-1)), .int .i64 (anyv 0 0), .int .i64 (anyv 0 1), .int .i64 0, .int .i64 0, .int .i64 0]) ?_ 6 (.int .i64 (anyv 1 (-1))) rfl; refine blk_put (cs := #[.int .i64 (anyv (-1) (-1)), .int .i64 (anyv (-1) 0), .int .i64 (anyv (-1) 1), .int .i64 (anyv 0 (-1)), .int .i64 (anyv 0 0), .int .i64 0, .int .i64 0, .int .i64 0, .int .i64 0]) ?_ 5 (.int .i64 (anyv 0 1)) rfl; refine blk_put (cs := #[.int .i64 (anyv (-1) (-1)), .int .i64 (anyv (-1) 0), .int .i64 (anyv (-1) 1), .int .i64 (anyv 0 (-1)), .int .i64 0, .int .i64 0, .int .i64 0, .int .i64 0, .int .i64 0]) ?_ 4 (.int .i64 (anyv 0 0)) rfl; refine blk_put (cs := #[.int .i64 (anyv (-1) (-1)), .int .i64 (anyv (-1) 0), .int .i64 (anyv (-1) 1), .int .i64 0, .int .i64 0, .int .i64 0, .int .i64 0, .int .i64 0, .int .i64 0]) ?_ 3 (.int .i64 (anyv 0 (-1))) rfl; refine blk_put (cs := #[.int .i64 (anyv (-1) (-1)), .int .i64 (anyv (-1) 0), .int .i64 0, .int .i64 0, .int .i64 0, .int .i64 0, .int .i64 0, .int .i64 0, .int .i64 0]) ?_ 2 (.int .i64 (anyv (-1) 1)) rfl; refine blk_put (cs := #[.int .i64 (anyv (-1) (-1)), .int .i64 0, .int .i64 0, .int .i64 0, .int .i64 0, .int .i64 0, .int .i64 0, .int .i64 0, .int .i64 0]) ?_ 1 (.int .i64 (anyv (-1) 0)) rfl; refine blk_put (cs := #[.int .i64 0, .int .i64 0, .int .i64 0, .int .i64 0, .int .i64 0, .int .i64 0, .int .i64 0, .int .i64 0, .int .i64 0]) ?_ 0 (.int .i64 (anyv (-1) (-1))) rfl; exact BKr.out))
  exact ⟨rfl, below_set (below_set (below_set (below_set (below_set (below_set (below_set (below_set (below_set (HB2.out) (Nat.le_refl _)) (Nat.le_refl _)) (Nat.le_refl _)) (Nat.le_refl _)) (Nat.le_refl _)) (Nat.le_refl _)) (Nat.le_refl _)) (Nat.le_refl _)) (Nat.le_refl _)⟩
set_option maxHeartbeats 8000000 in
set_option maxRecDepth 100000 in
theorem tableOf_min (w : World) :
    Calls Try.prog 78 #[.string (⟨#[109, 105, 110]⟩ : ByteArray)] w fun e w' => e = .returned (.agg #[.int .i64 (mn (-1) (-1)), .int .i64 (mn (-1) 0), .int .i64 (mn (-1) 1), .int .i64 (mn 0 (-1)), .int .i64 (mn 0 0), .int .i64 (mn 0 1), .int .i64 (mn 1 (-1)), .int .i64 (mn 1 0), .int .i64 (mn 1 1)]) ∧ Below w.heap.size w w' := by
  have HB := Aside0.mk (Below.refl w.heap.size w)
  go_enter Try.func78, Try.ntmps78
  go_wp2_with (go_at_call 51; (refine (tabled_any 91 _ #[] mn _ Try.func91 rfl (by kernel_rfl) ?s1).mono ?_); (case s1 => intro a b W hW q0 q1 q2 q3; exact impl_MinTrits.calls 10 a b _ W (min_nine a b q0 q1 q2 q3)); rintro e w2 ⟨rfl, hb⟩; have BKr := Aside0.mk (show w2.heap[w.heap.size]? = some (.cells #[.int .i64 0, .int .i64 0, .int .i64 0, .int .i64 0, .int .i64 0, .int .i64 0, .int .i64 0, .int .i64 0, .int .i64 0] 23 (0, 0)) from blk_below (blk_new _ _) hb); have HB2 := Aside0.mk (below_step (show Below w.heap.size w _ from by repeat (first | (with_reducible first | exact HB.out | apply below_alloc | apply pw_below_drewN | apply below_drew1) | exact HB.out)) hb); have hs0 : w2.cell? ⟨w.heap.size, 0, none⟩ = some (.int .i64 0) := (blk_cell BKr.out 0).trans rfl; have hf0 := blk_frozen BKr.out 0; have hs1 : w2.cell? ⟨w.heap.size, 1, none⟩ = some (.int .i64 0) := (blk_cell BKr.out 1).trans rfl; have hf1 := blk_frozen BKr.out 1; have hs2 : w2.cell? ⟨w.heap.size, 2, none⟩ = some (.int .i64 0) := (blk_cell BKr.out 2).trans rfl; have hf2 := blk_frozen BKr.out 2; have hs3 : w2.cell? ⟨w.heap.size, 3, none⟩ = some (.int .i64 0) := (blk_cell BKr.out 3).trans rfl; have hf3 := blk_frozen BKr.out 3; have hs4 : w2.cell? ⟨w.heap.size, 4, none⟩ = some (.int .i64 0) := (blk_cell BKr.out 4).trans rfl; have hf4 := blk_frozen BKr.out 4; have hs5 : w2.cell? ⟨w.heap.size, 5, none⟩ = some (.int .i64 0) := (blk_cell BKr.out 5).trans rfl; have hf5 := blk_frozen BKr.out 5; have hs6 : w2.cell? ⟨w.heap.size, 6, none⟩ = some (.int .i64 0) := (blk_cell BKr.out 6).trans rfl; have hf6 := blk_frozen BKr.out 6; have hs7 : w2.cell? ⟨w.heap.size, 7, none⟩ = some (.int .i64 0) := (blk_cell BKr.out 7).trans rfl; have hf7 := blk_frozen BKr.out 7; have hs8 : w2.cell? ⟨w.heap.size, 8, none⟩ = some (.int .i64 0) := (blk_cell BKr.out 8).trans rfl; have hf8 := blk_frozen BKr.out 8; clear hb)
  refine bodyPost_ret (v := .agg #[.int .i64 (mn (-1) (-1)), .int .i64 (mn (-1) 0), .int .i64 (mn (-1) 1), .int .i64 (mn 0 (-1)), .int .i64 (mn 0 0), .int .i64 (mn 0 1), .int .i64 (mn 1 (-1)), .int .i64 (mn 1 0), .int .i64 (mn 1 1)]) ?hr rfl ?_; (case hr => refine results_cell_row rfl _ _ (w.heap.size) 23 #[.int .i64 (mn (-1) (-1)), .int .i64 (mn (-1) 0), .int .i64 (mn (-1) 1), .int .i64 (mn 0 (-1)), .int .i64 (mn 0 0), .int .i64 (mn 0 1), .int .i64 (mn 1 (-1)), .int .i64 (mn 1 0), .int .i64 (mn 1 1)] (0, 0) _ rfl ?hg Try.underlying23 rfl (by kernel_rfl); (case hg => refine blk_put (cs := #[.int .i64 (mn (-1) (-1)), .int .i64 (mn (-1) 0), .int .i64 (mn (-1) 1), .int .i64 (mn 0 (-1)), .int .i64 (mn 0 0), .int .i64 (mn 0 1), .int .i64 (mn 1 (-1)), .int .i64 (mn 1 0), .int .i64 0]) ?_ 8 (.int .i64 (mn 1 1)) rfl; refine blk_put (cs := #[.int .i64 (mn (-1) (-1)), .int .i64 (mn (-1) 0), .int .i64 (mn (-1) 1), .int .i64 (mn 0 (-1)), .int .i64 (mn 0 0), .int .i64 (mn 0 1), .int .i64 (mn 1 (-1)), .int .i64 0, .int .i64 0]) ?_ 7 (.int .i64 (mn 1 0)) rfl; refine blk_put (cs := #[.int .i64 (mn (-1) (-1)), .int .i64 (mn (-1) 0), .int .i64 (mn (-1) 1), .int .i64 (mn 0 (-1)), .int .i64 (mn 0 0), .int .i64 (mn 0 1), .int .i64 0, .int .i64 0, .int .i64 0]) ?_ 6 (.int .i64 (mn 1 (-1))) rfl; refine blk_put (cs := #[.int .i64 (mn (-1) (-1)), .int .i64 (mn (-1) 0), .int .i64 (mn (-1) 1), .int .i64 (mn 0 (-1)), .int .i64 (mn 0 0), .int .i64 0, .int .i64 0, .int .i64 0, .int .i64 0]) ?_ 5 (.int .i64 (mn 0 1)) rfl; refine blk_put (cs := #[.int .i64 (mn (-1) (-1)), .int .i64 (mn (-1) 0), .int .i64 (mn (-1) 1), .int .i64 (mn 0 (-1)), .int .i64 0, .int .i64 0, .int .i64 0, .int .i64 0, .int .i64 0]) ?_ 4 (.int .i64 (mn 0 0)) rfl; refine blk_put (cs := #[.int .i64 (mn (-1) (-1)), .int .i64 (mn (-1) 0), .int .i64 (mn (-1) 1), .int .i64 0, .int .i64 0, .int .i64 0, .int .i64 0, .int .i64 0, .int .i64 0]) ?_ 3 (.int .i64 (mn 0 (-1))) rfl; refine blk_put (cs := #[.int .i64 (mn (-1) (-1)), .int .i64 (mn (-1) 0), .int .i64 0, .int .i64 0, .int .i64 0, .int .i64 0, .int .i64 0, .int .i64 0, .int .i64 0]) ?_ 2 (.int .i64 (mn (-1) 1)) rfl; refine blk_put (cs := #[.int .i64 (mn (-1) (-1)), .int .i64 0, .int .i64 0, .int .i64 0, .int .i64 0, .int .i64 0, .int .i64 0, .int .i64 0, .int .i64 0]) ?_ 1 (.int .i64 (mn (-1) 0)) rfl; refine blk_put (cs := #[.int .i64 0, .int .i64 0, .int .i64 0, .int .i64 0, .int .i64 0, .int .i64 0, .int .i64 0, .int .i64 0, .int .i64 0]) ?_ 0 (.int .i64 (mn (-1) (-1))) rfl; exact BKr.out))
  exact ⟨rfl, below_set (below_set (below_set (below_set (below_set (below_set (below_set (below_set (below_set (HB2.out) (Nat.le_refl _)) (Nat.le_refl _)) (Nat.le_refl _)) (Nat.le_refl _)) (Nat.le_refl _)) (Nat.le_refl _)) (Nat.le_refl _)) (Nat.le_refl _)) (Nat.le_refl _)⟩
set_option maxHeartbeats 8000000 in
set_option maxRecDepth 100000 in
theorem tableOf_max (w : World) :
    Calls Try.prog 78 #[.string (⟨#[109, 97, 120]⟩ : ByteArray)] w fun e w' => e = .returned (.agg #[.int .i64 (mx (-1) (-1)), .int .i64 (mx (-1) 0), .int .i64 (mx (-1) 1), .int .i64 (mx 0 (-1)), .int .i64 (mx 0 0), .int .i64 (mx 0 1), .int .i64 (mx 1 (-1)), .int .i64 (mx 1 0), .int .i64 (mx 1 1)]) ∧ Below w.heap.size w w' := by
  have HB := Aside0.mk (Below.refl w.heap.size w)
  go_enter Try.func78, Try.ntmps78
  go_wp2_with (go_at_call 51; (refine (tabled_any 92 _ #[] mx _ Try.func92 rfl (by kernel_rfl) ?s1).mono ?_); (case s1 => intro a b W hW q0 q1 q2 q3; exact impl_MaxTrits.calls 10 a b _ W (max_nine a b q0 q1 q2 q3)); rintro e w2 ⟨rfl, hb⟩; have BKr := Aside0.mk (show w2.heap[w.heap.size]? = some (.cells #[.int .i64 0, .int .i64 0, .int .i64 0, .int .i64 0, .int .i64 0, .int .i64 0, .int .i64 0, .int .i64 0, .int .i64 0] 23 (0, 0)) from blk_below (blk_new _ _) hb); have HB2 := Aside0.mk (below_step (show Below w.heap.size w _ from by repeat (first | (with_reducible first | exact HB.out | apply below_alloc | apply pw_below_drewN | apply below_drew1) | exact HB.out)) hb); have hs0 : w2.cell? ⟨w.heap.size, 0, none⟩ = some (.int .i64 0) := (blk_cell BKr.out 0).trans rfl; have hf0 := blk_frozen BKr.out 0; have hs1 : w2.cell? ⟨w.heap.size, 1, none⟩ = some (.int .i64 0) := (blk_cell BKr.out 1).trans rfl; have hf1 := blk_frozen BKr.out 1; have hs2 : w2.cell? ⟨w.heap.size, 2, none⟩ = some (.int .i64 0) := (blk_cell BKr.out 2).trans rfl; have hf2 := blk_frozen BKr.out 2; have hs3 : w2.cell? ⟨w.heap.size, 3, none⟩ = some (.int .i64 0) := (blk_cell BKr.out 3).trans rfl; have hf3 := blk_frozen BKr.out 3; have hs4 : w2.cell? ⟨w.heap.size, 4, none⟩ = some (.int .i64 0) := (blk_cell BKr.out 4).trans rfl; have hf4 := blk_frozen BKr.out 4; have hs5 : w2.cell? ⟨w.heap.size, 5, none⟩ = some (.int .i64 0) := (blk_cell BKr.out 5).trans rfl; have hf5 := blk_frozen BKr.out 5; have hs6 : w2.cell? ⟨w.heap.size, 6, none⟩ = some (.int .i64 0) := (blk_cell BKr.out 6).trans rfl; have hf6 := blk_frozen BKr.out 6; have hs7 : w2.cell? ⟨w.heap.size, 7, none⟩ = some (.int .i64 0) := (blk_cell BKr.out 7).trans rfl; have hf7 := blk_frozen BKr.out 7; have hs8 : w2.cell? ⟨w.heap.size, 8, none⟩ = some (.int .i64 0) := (blk_cell BKr.out 8).trans rfl; have hf8 := blk_frozen BKr.out 8; clear hb)
  refine bodyPost_ret (v := .agg #[.int .i64 (mx (-1) (-1)), .int .i64 (mx (-1) 0), .int .i64 (mx (-1) 1), .int .i64 (mx 0 (-1)), .int .i64 (mx 0 0), .int .i64 (mx 0 1), .int .i64 (mx 1 (-1)), .int .i64 (mx 1 0), .int .i64 (mx 1 1)]) ?hr rfl ?_; (case hr => refine results_cell_row rfl _ _ (w.heap.size) 23 #[.int .i64 (mx (-1) (-1)), .int .i64 (mx (-1) 0), .int .i64 (mx (-1) 1), .int .i64 (mx 0 (-1)), .int .i64 (mx 0 0), .int .i64 (mx 0 1), .int .i64 (mx 1 (-1)), .int .i64 (mx 1 0), .int .i64 (mx 1 1)] (0, 0) _ rfl ?hg Try.underlying23 rfl (by kernel_rfl); (case hg => refine blk_put (cs := #[.int .i64 (mx (-1) (-1)), .int .i64 (mx (-1) 0), .int .i64 (mx (-1) 1), .int .i64 (mx 0 (-1)), .int .i64 (mx 0 0), .int .i64 (mx 0 1), .int .i64 (mx 1 (-1)), .int .i64 (mx 1 0), .int .i64 0]) ?_ 8 (.int .i64 (mx 1 1)) rfl; refine blk_put (cs := #[.int .i64 (mx (-1) (-1)), .int .i64 (mx (-1) 0), .int .i64 (mx (-1) 1), .int .i64 (mx 0 (-1)), .int .i64 (mx 0 0), .int .i64 (mx 0 1), .int .i64 (mx 1 (-1)), .int .i64 0, .int .i64 0]) ?_ 7 (.int .i64 (mx 1 0)) rfl; refine blk_put (cs := #[.int .i64 (mx (-1) (-1)), .int .i64 (mx (-1) 0), .int .i64 (mx (-1) 1), .int .i64 (mx 0 (-1)), .int .i64 (mx 0 0), .int .i64 (mx 0 1), .int .i64 0, .int .i64 0, .int .i64 0]) ?_ 6 (.int .i64 (mx 1 (-1))) rfl; refine blk_put (cs := #[.int .i64 (mx (-1) (-1)), .int .i64 (mx (-1) 0), .int .i64 (mx (-1) 1), .int .i64 (mx 0 (-1)), .int .i64 (mx 0 0), .int .i64 0, .int .i64 0, .int .i64 0, .int .i64 0]) ?_ 5 (.int .i64 (mx 0 1)) rfl; refine blk_put (cs := #[.int .i64 (mx (-1) (-1)), .int .i64 (mx (-1) 0), .int .i64 (mx (-1) 1), .int .i64 (mx 0 (-1)), .int .i64 0, .int .i64 0, .int .i64 0, .int .i64 0, .int .i64 0]) ?_ 4 (.int .i64 (mx 0 0)) rfl; refine blk_put (cs := #[.int .i64 (mx (-1) (-1)), .int .i64 (mx (-1) 0), .int .i64 (mx (-1) 1), .int .i64 0, .int .i64 0, .int .i64 0, .int .i64 0, .int .i64 0, .int .i64 0]) ?_ 3 (.int .i64 (mx 0 (-1))) rfl; refine blk_put (cs := #[.int .i64 (mx (-1) (-1)), .int .i64 (mx (-1) 0), .int .i64 0, .int .i64 0, .int .i64 0, .int .i64 0, .int .i64 0, .int .i64 0, .int .i64 0]) ?_ 2 (.int .i64 (mx (-1) 1)) rfl; refine blk_put (cs := #[.int .i64 (mx (-1) (-1)), .int .i64 0, .int .i64 0, .int .i64 0, .int .i64 0, .int .i64 0, .int .i64 0, .int .i64 0, .int .i64 0]) ?_ 1 (.int .i64 (mx (-1) 0)) rfl; refine blk_put (cs := #[.int .i64 0, .int .i64 0, .int .i64 0, .int .i64 0, .int .i64 0, .int .i64 0, .int .i64 0, .int .i64 0, .int .i64 0]) ?_ 0 (.int .i64 (mx (-1) (-1))) rfl; exact BKr.out))
  exact ⟨rfl, below_set (below_set (below_set (below_set (below_set (below_set (below_set (below_set (below_set (HB2.out) (Nat.le_refl _)) (Nat.le_refl _)) (Nat.le_refl _)) (Nat.le_refl _)) (Nat.le_refl _)) (Nat.le_refl _)) (Nat.le_refl _)) (Nat.le_refl _)) (Nat.le_refl _)⟩
theorem impl_TableOf.calls (a0 : ByteArray) (r1 r2 r3 r4 r5 r6 r7 r8 r9 : Int) (w : World) (h : impl_TableOf.f a0 = some (r1, r2, r3, r4, r5, r6, r7, r8, r9)) :
    Calls Try.prog 78 #[.string a0] w fun e w' => e = .returned (.agg #[.int .i64 r1, .int .i64 r2, .int .i64 r3, .int .i64 r4, .int .i64 r5, .int .i64 r6, .int .i64 r7, .int .i64 r8, .int .i64 r9]) ∧ Below w.heap.size w w' := by
  unfold impl_TableOf.f at h
  by_cases csum : a0 = (⟨#[115, 117, 109]⟩ : ByteArray)
  · rw [if_pos csum] at h
    have h2 := Option.some.inj h
    simp only [Prod.mk.injEq] at h2
    obtain ⟨rfl, rfl, rfl, rfl, rfl, rfl, rfl, rfl, rfl⟩ := h2
    subst csum
    exact tableOf_sum w
  · rw [if_neg csum] at h
    by_cases ccarry : a0 = (⟨#[99, 97, 114, 114, 121]⟩ : ByteArray)
    · rw [if_pos ccarry] at h
      have h2 := Option.some.inj h
      simp only [Prod.mk.injEq] at h2
      obtain ⟨rfl, rfl, rfl, rfl, rfl, rfl, rfl, rfl, rfl⟩ := h2
      subst ccarry
      exact tableOf_carry w
    · rw [if_neg ccarry] at h
      by_cases cany : a0 = (⟨#[97, 110, 121]⟩ : ByteArray)
      · rw [if_pos cany] at h
        have h2 := Option.some.inj h
        simp only [Prod.mk.injEq] at h2
        obtain ⟨rfl, rfl, rfl, rfl, rfl, rfl, rfl, rfl, rfl⟩ := h2
        subst cany
        exact tableOf_any w
      · rw [if_neg cany] at h
        by_cases cmin : a0 = (⟨#[109, 105, 110]⟩ : ByteArray)
        · rw [if_pos cmin] at h
          have h2 := Option.some.inj h
          simp only [Prod.mk.injEq] at h2
          obtain ⟨rfl, rfl, rfl, rfl, rfl, rfl, rfl, rfl, rfl⟩ := h2
          subst cmin
          exact tableOf_min w
        · rw [if_neg cmin] at h
          by_cases cmax : a0 = (⟨#[109, 97, 120]⟩ : ByteArray)
          · rw [if_pos cmax] at h
            have h2 := Option.some.inj h
            simp only [Prod.mk.injEq] at h2
            obtain ⟨rfl, rfl, rfl, rfl, rfl, rfl, rfl, rfl, rfl⟩ := h2
            subst cmax
            exact tableOf_max w
          · rw [if_neg cmax] at h
            cases h

end Go.Proofs.Ytaopbkbjfmfcdaa.P
