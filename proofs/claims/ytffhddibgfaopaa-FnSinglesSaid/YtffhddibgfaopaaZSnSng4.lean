/- The one-word float of a floating number, and the law of such floats, by hand; no condition is set on any claim. -/
import Derived.Test.YtffhddibgfaopaaZSnPSg5
import Derived.Test.YtffhddibgfaopaaZSnSng0
import Derived.IntWalk
namespace Go.Proofs.Ytffhddibgfaopaa.P
open Go.RowKit Go.Proofs.YtffhddibgfaopaaW.PrintWords Go.Proofs.YtffhddibgfaopaaW.PrintLast Go.Proofs.YtffhddibgfaopaaW.PrintMore
attribute [local go_sem] max2_int min2_int max_two min_two
set_option linter.unusedVariables false
set_option linter.unusedSimpArgs false
theorem unary_neg_float (k : FloatKind) (b : Nat) : Op.unary .neg (.float k b) = pure (.float k (Op.negFloat k b)) := rfl
attribute [local go_sem] unary_neg_float
set_option maxHeartbeats 1600000 in
set_option maxRecDepth 100000 in
theorem impl_SingleOf.walk (k : Nat) (A0 : Option Addr) (c0 : Nat) (l : List Int) (e v : Int) (w : World) (hr : Kd.C (Kd.int .i64) w A0 l.length l) (hc : l.length ≤ c0) (h1 : impl_IsFloat.f k l e = some true) (h2 : impl_value.f k l = some v) (a b r : Nat) (hm : mulN e.toNat (floatOfInt .f64 v) = some a) (hd : divN (-e).toNat a = some b) (hs : floatToFloatBits .f64 b .f32 = some r) (he : -20 ≤ e ∧ e ≤ 20) :
    Calls Try.prog 14 #[.agg #[.slice A0 l.length c0, .int .i64 e]] w fun e' w' => e' = .returned (.float .f32 r) ∧ Below w.heap.size w w' := by
  have HB := Aside0.mk (Below.refl w.heap.size w)
  have HR := Aside0.mk hr
  have HC := Aside0.mk hc
  have H1 := Aside0.mk h1
  have H2 := Aside0.mk h2
  obtain ⟨p, hp⟩ : ∃ p : Nat, e.toNat = p := ⟨_, rfl⟩
  obtain ⟨q, hq⟩ : ∃ q : Nat, (-e).toNat = q := ⟨_, rfl⟩
  rw [hp] at hm
  rw [hq] at hd
  have HM := Aside0.mk hm
  have HD := Aside0.mk hd
  have HS := Aside0.mk hs
  have HE := Aside0.mk he
  have hmx1 : (if (0 : Int) < e then e else 0) = (p : Int) := by split <;> omega
  have hwe : wrap64 (-e) = -e := by unfold wrap64; omega
  have hmx2 : (if (0 : Int) < wrap64 (-e) then wrap64 (-e) else 0) = (q : Int) := by rw [hwe]; split <;> omega
  have hmx3 : (if e < 0 then -e else 0) = (q : Int) := by split <;> omega
  have hmx4 : (if e < 0 then wrap64 (-e) else 0) = (q : Int) := by rw [hwe]; split <;> omega
  have hmx5 : (if (0 : Int) < -e then -e else 0) = (q : Int) := by split <;> omega
  have HX1 := Aside0.mk (show p ≤ 20 ∧ q ≤ 20 by omega)
  clear hr hc h1 h2 hm hd hs he hp hq
  go_enter Try.func14, Try.ntmps14
  go_wp2_with (first | (go_at_call 29; (with_reducible refine (impl_IsFloat.calls k _ _ l e true _ ?s1 HC.out H1.out).mono ?_); (case s1 => exact bD HR.out); rintro e1 w1 ⟨rfl, hb⟩; have BK := Aside0.mk (show w1.heap[w.heap.size]? = some (.cells #[.slice A0 l.length c0, .int .i64 e] 26 (0, 0)) from blk_below (blk_new _ _) hb); have HB1 := Aside0.mk (show Below w.heap.size w w1 from below_step (below_alloc HB.out _) hb); have HR1 := Aside0.mk (Kd.C_below (Kd.C_alloc HR.out _) hb); have hs0 : w1.cell? ⟨w.heap.size, 0, none⟩ = some (.slice A0 l.length c0) := (blk_cell BK.out 0).trans rfl; have hs1 : w1.cell? ⟨w.heap.size, 1, none⟩ = some (.int .i64 e) := (blk_cell BK.out 1).trans rfl; clear hb) | (go_at_call 32; (with_reducible refine (impl_value.calls k _ _ l v _ ?s1 HC.out H2.out).mono ?_); (case s1 => exact HR1.out); rintro e1 w2 ⟨rfl, ⟨nd2, rfl⟩⟩))
  go_loopg [3, 14] 22 (fun kq v3 v14 w' => ∃ (x : Nat) (i : Nat), v3 = .float .f64 x ∧ v14 = .int .i64 (i : Int) ∧ Aside0 (mulN (p - i) x = some a ∧ i ≤ p ∧ p - i + 1 ≤ kq) ∧ Drawn0 w1 w')
  case atStart => exact ⟨_, 0, rfl, rfl, ⟨HM.out, by omega, by have := HX1.out; omega⟩, by repeat (first | exact Drawn0.refl _ | apply Drawn0.step)⟩
  case round =>
    obtain ⟨x, i, rfl, rfl, HA, ⟨m1, rfl⟩⟩ := hrel
    by_cases hi : i < p
    · have d0 : decide ((i : Int) < (p : Int)) = true := decide_eq_true (by omega)
      have d1 : decide (i < p) = true := decide_eq_true hi
      have hm := HA.out.1
      obtain ⟨n, hn⟩ : ∃ n : Nat, p - i = n + 1 := ⟨p - i - 1, by omega⟩
      rw [hn] at hm
      obtain ⟨y, hy, hm⟩ := Option.bind_eq_some_iff.mp hm
      have HY := Aside0.mk hm
      have hf : ∀ w', (binOp .mul 36 (.float .f64 x) (.float .f64 4613937818241073152)).run Try.prog w' = .ok (.float .f64 y) w' := fun w' => run_float_arith w' .mul 36 .f64 x c3 y hy
      have HN := Aside0.mk hn
      have HI := Aside0.mk hi
      clear hi hm hy hn
      go_wp2
      have hw : wrap64 ((i : Int) + 1) = ((i + 1 : Nat) : Int) := by have := HX1.out; have := HI.out; unfold wrap64; omega
      go_roundg (gk - 1)
      case measure => have := HA.out; have := HI.out; omega
      case rel => exact ⟨y, i + 1, rfl, by rw [hw], ⟨by rw [show p - (i + 1) = n from by have := HN.out; omega]; exact HY.out, by have := HI.out; omega, by have := HA.out; have := HI.out; omega⟩, by repeat (first | exact Drawn0.refl _ | apply Drawn0.step)⟩
    · have d0 : decide ((i : Int) < (p : Int)) = false := decide_eq_false (by omega)
      have d1 : decide (i < p) = false := decide_eq_false hi
      have HI := Aside0.mk hi
      clear hi
      have hx := HA.out.1
      rw [show p - i = 0 by have := HI.out; omega] at hx
      obtain rfl : x = a := Option.some.inj hx
      clear hx
      go_wp2
      go_loopg [3, 23] 22 (fun kq v3 v23 w' => ∃ (z : Nat) (i : Nat), v3 = .float .f64 z ∧ v23 = .int .i64 (i : Int) ∧ Aside0 (divN (q - i) z = some b ∧ i ≤ q ∧ q - i + 1 ≤ kq) ∧ Drawn0 w1 w')
      case atStart => exact ⟨_, 0, rfl, rfl, ⟨HD.out, by omega, by have := HX1.out; omega⟩, by repeat (first | exact Drawn0.refl _ | apply Drawn0.step)⟩
      case round =>
        obtain ⟨z, j, rfl, rfl, HA2, ⟨m2, rfl⟩⟩ := hrel
        by_cases hj : j < q
        · have f0 : decide ((j : Int) < (q : Int)) = true := decide_eq_true (by omega)
          have f1 : decide (j < q) = true := decide_eq_true hj
          have hm := HA2.out.1
          obtain ⟨n, hn⟩ : ∃ n : Nat, q - j = n + 1 := ⟨q - j - 1, by omega⟩
          rw [hn] at hm
          obtain ⟨y, hy, hm⟩ := Option.bind_eq_some_iff.mp hm
          have HY := Aside0.mk hm
          have hf : ∀ w', (binOp .quo 36 (.float .f64 z) (.float .f64 4613937818241073152)).run Try.prog w' = .ok (.float .f64 y) w' := fun w' => run_float_arith w' .quo 36 .f64 z c3 y hy
          have HN := Aside0.mk hn
          have HJ := Aside0.mk hj
          clear hj hm hy hn
          go_wp2
          have hw : wrap64 ((j : Int) + 1) = ((j + 1 : Nat) : Int) := by have := HX1.out; have := HJ.out; unfold wrap64; omega
          go_roundg (gk - 1)
          case measure => have := HA2.out; have := HJ.out; omega
          case rel => exact ⟨y, j + 1, rfl, by rw [hw], ⟨by rw [show q - (j + 1) = n from by have := HN.out; omega]; exact HY.out, by have := HJ.out; omega, by have := HA2.out; have := HJ.out; omega⟩, by repeat (first | exact Drawn0.refl _ | apply Drawn0.step)⟩
        · have f0 : decide ((j : Int) < (q : Int)) = false := decide_eq_false (by omega)
          have f1 : decide (j < q) = false := decide_eq_false hj
          have HJ := Aside0.mk hj
          clear hj
          have hx := HA2.out.1
          rw [show q - j = 0 by have := HJ.out; omega] at hx
          obtain rfl : z = b := Option.some.inj hx
          clear hx
          have hc : ∀ w', (convert 36 33 (.float .f64 z)).run Try.prog w' = .ok (.float .f32 r) w' := fun w' => run_convert_float_float w' 36 33 .f64 .f32 z r (by kernel_rfl) (by kernel_rfl) HS.out
          go_wp2
          go_ret
          exact ⟨rfl, by repeat (first | (with_reducible first | exact HB1.out | apply below_alloc | apply pw_below_drewN | apply below_drew1) | exact HB1.out)⟩
end Go.Proofs.Ytffhddibgfaopaa.P
