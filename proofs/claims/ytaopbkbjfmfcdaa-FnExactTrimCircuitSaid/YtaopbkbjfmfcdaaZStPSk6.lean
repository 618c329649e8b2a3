/- What functions of the program come to, each with the proof that it does, laid by a program of this session out of the translation; no condition is set on any claim. -/
import Derived.Deep.RegionLaw
import Derived.Test.YtaopbkbjfmfcdaaZStPSk0
import Derived.Test.YtaopbkbjfmfcdaaZStPSk3
namespace Go.Proofs.Ytaopbkbjfmfcdaa.P
open Go.RowKit Go.Proofs.YtaopbkbjfmfcdaaW.PrintWords Go.Proofs.YtaopbkbjfmfcdaaW.PrintLast Go.Proofs.YtaopbkbjfmfcdaaW.PrintMore
attribute [local go_sem] max2_int min2_int max_two min_two max_three min_three max_four min_four   -- for this text's walks alone
set_option linter.unusedVariables false
set_option linter.unusedSimpArgs false

/-! ### impl_IsTrit: function 50 -/
def impl_IsTrit.f (a0 : Int) : Option (Bool) := if a0 ≥ (-1) then (some (decide (a0 ≤ 1))) else (some false)
set_option maxHeartbeats 8000000 in
set_option maxRecDepth 100000 in
theorem impl_IsTrit.calls (a0 : Int) (r : Bool) (w : World) (h : impl_IsTrit.f a0 = some r) :
  Calls Try.prog 50 #[.int .i64 a0] w fun e w' => e = .returned (.bool r) ∧ Drawn0 w w' := by
 have H : (if a0 ≥ (-1) then (some (decide (a0 ≤ 1))) else (some false)) = some r := h
 clear h
 by_cases c2 : a0 ≥ (-1)
 ·rw [if_pos c2] at H
  have c2b0 : decide ((-1) ≤ a0) = true := decide_eq_true c2
  clear c2
  obtain rfl := Option.some.inj H
  go_enter Try.func50, Try.ntmps50
  go_wp2
  go_ret
  exact ⟨by first | rfl | (simp; done) | (simp [*]; done), by repeat (first | exact Drawn0.refl _ | apply Drawn0.step)⟩
 ·rw [if_neg c2] at H
  have c2b0 : decide ((-1) ≤ a0) = false := decide_eq_false c2
  clear c2
  obtain rfl := Option.some.inj H
  go_enter Try.func50, Try.ntmps50
  go_wp2
  go_ret
  exact ⟨by first | rfl | (simp; done) | (simp [*]; done), by repeat (first | exact Drawn0.refl _ | apply Drawn0.step)⟩

/-! ### impl_trits: function 65 -/
def impl_trits.l0 : Nat → List Int → Int → Int → Option (Bool)
 | 0, _, _, _ => none
 | k + 1, x5, x6, x7 => if x7 < x6 then (if 0 ≤ x7 then (if x7 < (x5.length : Int) then ((impl_IsTrit.f (rd x5 x7)).bind fun t102 => (if t102 = true then (impl_trits.l0 k x5 x6 (wrap64 (x7 + 1))) else (some false))) else (none)) else (none)) else (some true)
def impl_trits.f (k : Nat) (l0 : List Int) : Option (Bool) := impl_trits.l0 k l0 (l0.length : Int) 0
set_option maxHeartbeats 8000000 in
set_option maxRecDepth 100000 in
theorem impl_trits.calls (k : Nat) (A0 : Option Addr) (c0 : Nat) (l0 : List Int) (r : Bool) (w : World) (hr0 : Kd.C (Kd.int .i64) w A0 l0.length l0) (hc0 : l0.length ≤ c0) (h : impl_trits.f k l0 = some r) :
  Calls Try.prog 65 #[.slice A0 l0.length c0] w fun e w' => e = .returned (.bool r) ∧ Drawn0 w w' := by
 have HR0 := am hr0; have HC0 := am hc0; clear hr0 hc0
 have H : (impl_trits.l0 k l0 (l0.length : Int) 0) = some r := h
 clear h
 have H' := am H
 clear H
 go_enter Try.func65, Try.ntmps65
 go_wp2
 go_loopg [7] k (fun kq v7 w' => ∃ (x7_1 : Int), v7 = .int .i64 x7_1 ∧ Aside0 (impl_trits.l0 kq l0 (l0.length : Int) x7_1 = some r) ∧ Aside0 (kq ≤ k) ∧ Drawn0 w w')
 case atStart => exact ⟨(0), (by first | rfl | (simp; done) | (simp [*]; done)), H', ⟨Nat.le_refl _⟩, by repeat (first | exact Drawn0.refl _ | apply Drawn0.step)⟩
 case round =>
  clear H'
  obtain ⟨x7_1, rfl, HA, HK1, ⟨m1, rfl⟩⟩ := hrel
  cases gk with
  | zero => exact absurd HA.out (by simp [impl_trits.l0])
  | succ k1 =>
   have H := HA.out; clear HA
   simp only [impl_trits.l0] at H
   by_cases c2 : x7_1 < (l0.length : Int)
   ·rw [if_pos c2] at H
    have c2b0 : decide (x7_1 < (l0.length : Int)) = true := decide_eq_true c2
    clear c2
    by_cases c3 : 0 ≤ x7_1
    ·rw [if_pos c3] at H
     have c3b0 : decide (0 ≤ x7_1) = true := decide_eq_true c3
     clear c3
     by_cases c4 : x7_1 < (l0.length : Int)
     ·rw [if_pos c4] at H
      have c4b0 : decide (x7_1 < (l0.length : Int)) = true := decide_eq_true c4
      clear c4
      replace H := Option.bind_eq_some_iff.mp H
      obtain ⟨t102, A50, H⟩ := H
      replace H : (if t102 = true then (impl_trits.l0 k1 l0 (l0.length : Int) (wrap64 (x7_1 + 1))) else (some false)) = some r := H
      have A5 := am A50; clear A50
      by_cases c6 : t102 = true
      ·subst c6
       have H1 : (impl_trits.l0 k1 l0 (l0.length : Int) (wrap64 (x7_1 + 1))) = some r := by rw [if_pos rfl] at H; exact H
       clear H; have H := H1; clear H1
       have H' := am H
       clear H
       have p101 : 0 ≤ (x7_1 : Int) := of_decide_eq_true (by first | with_reducible assumption | assumption)
       have q101 : x7_1 < (l0.length : Int) := of_decide_eq_true (by first | with_reducible assumption | assumption)
       obtain ⟨ad101, e101, hx101_0⟩ := Kd.at_int HR0.out x7_1 p101 q101
       cases e101
       replace p101 := eq_true p101
       replace q101 := eq_true q101
       go_wp2_with (first | ((with_reducible refine gate_callee (f := 50) rfl ?_); refine goesL_ (some 12) rfl rfl Try.func50 (by kernel_rfl) rfl #[.int .i64 (rd l0 x7_1)] rfl bE ?_; (with_reducible refine (impl_IsTrit.calls (rd l0 x7_1) true _ A5.out).mono ?_); rintro e w' ⟨rfl, ⟨nd, rfl⟩⟩; refine ⟨_, rfl, ?_⟩))
       go_roundg k1
       case measure => have := HK1.out; omega
       case rel => exact ⟨(wrap64 (x7_1 + 1)), (by first | rfl | (simp; done) | (simp [*]; done)), H', ⟨by have := HK1.out; omega⟩, by repeat (first | exact Drawn0.refl _ | apply Drawn0.step)⟩
      ·replace c6 := Bool.eq_false_iff.mpr c6
       subst c6
       have H1 : (some false) = some r := by rw [if_neg (show ¬ (false = true) by decide)] at H; exact H
       clear H; have H := H1; clear H1
       obtain rfl := Option.some.inj H
       have p101 : 0 ≤ (x7_1 : Int) := of_decide_eq_true (by first | with_reducible assumption | assumption)
       have q101 : x7_1 < (l0.length : Int) := of_decide_eq_true (by first | with_reducible assumption | assumption)
       obtain ⟨ad101, e101, hx101_0⟩ := Kd.at_int HR0.out x7_1 p101 q101
       cases e101
       replace p101 := eq_true p101
       replace q101 := eq_true q101
       go_wp2_with (first | ((with_reducible refine gate_callee (f := 50) rfl ?_); refine goesL_ (some 12) rfl rfl Try.func50 (by kernel_rfl) rfl #[.int .i64 (rd l0 x7_1)] rfl bE ?_; (with_reducible refine (impl_IsTrit.calls (rd l0 x7_1) false _ A5.out).mono ?_); rintro e w' ⟨rfl, ⟨nd, rfl⟩⟩; refine ⟨_, rfl, ?_⟩))
       go_ret
       exact ⟨by first | rfl | (simp; done) | (simp [*]; done), by repeat (first | exact Drawn0.refl _ | apply Drawn0.step)⟩
     ·rw [if_neg c4] at H
      exact absurd H (by simp)
    ·rw [if_neg c3] at H
     exact absurd H (by simp)
   ·rw [if_neg c2] at H
    have c2b0 : decide (x7_1 < (l0.length : Int)) = false := decide_eq_false c2
    clear c2
    obtain rfl := Option.some.inj H
    go_wp2
    go_ret
    exact ⟨by first | rfl | (simp; done) | (simp [*]; done), by repeat (first | exact Drawn0.refl _ | apply Drawn0.step)⟩

/-! ### impl_IsTable: function 58 -/
theorem impl_trB (x : Int) : impl_IsTrit.f x = some (trB x) := by
  unfold impl_IsTrit.f trB
  by_cases c : -1 ≤ x <;> simp [c]
theorem bindS {α β : Type} (x : α) (f : α → Option β) : (some x).bind f = f x := by
  cases h : f x with
  | none => simp [h]
  | some y => simp [h]
theorem impl_trits_go (l : List Int) (hl : l.length ≤ 2000000) : ∀ (d k i : Nat), i + d = l.length → d < k →
    impl_trits.l0 k l (l.length : Int) (i : Int) = some (isT9 (l.drop i)) := by
  intro d
  induction d with
  | zero =>
    intro k i h hk
    obtain ⟨k, rfl⟩ : ∃ m, k = m + 1 := ⟨k - 1, by omega⟩
    simp only [impl_trits.l0]
    rw [if_neg (by omega), List.drop_eq_nil_of_le (by omega)]
    rfl
  | succ d ih =>
    intro k i h hk
    obtain ⟨k, rfl⟩ : ∃ m, k = m + 1 := ⟨k - 1, by omega⟩
    simp only [impl_trits.l0]
    have hd : l.drop i = rd l (i : Int) :: l.drop (i + 1) := by
      rw [List.drop_eq_getElem_cons (by omega)]
      congr 1
      simp [rd, List.getElem?_eq_getElem (show i < l.length by omega)]
    rw [if_pos (by omega), if_pos (by omega), if_pos (by omega), impl_trB, bindS, hd]
    cases c : trB (rd l (i : Int)) with
    | true =>
      rw [if_pos rfl, show wrap64 ((i : Int) + 1) = ((i + 1 : Nat) : Int) by unfold wrap64; omega, ih k (i + 1) (by omega) (by omega)]
      simp [isT9, c]
    | false =>
      rw [if_neg (by decide)]
      simp [isT9, c]
theorem t9_cells (a0_0 a0_1 a0_2 a0_3 a0_4 a0_5 a0_6 a0_7 a0_8 : Int) : (#[.int .i64 a0_0, .int .i64 a0_1, .int .i64 a0_2, .int .i64 a0_3, .int .i64 a0_4, .int .i64 a0_5, .int .i64 a0_6, .int .i64 a0_7, .int .i64 a0_8] : Array Value) = (([a0_0, a0_1, a0_2, a0_3, a0_4, a0_5, a0_6, a0_7, a0_8] : List Int).map (Value.int .i64)).toArray := rfl
theorem t9_reads (a0_0 a0_1 a0_2 a0_3 a0_4 a0_5 a0_6 a0_7 a0_8 : Int) (w : World) : Kd.C (Kd.int .i64) (w.alloc (.cells #[.int .i64 a0_0, .int .i64 a0_1, .int .i64 a0_2, .int .i64 a0_3, .int .i64 a0_4, .int .i64 a0_5, .int .i64 a0_6, .int .i64 a0_7, .int .i64 a0_8] 23)) (some ⟨w.heap.size, 0, none⟩) ([a0_0, a0_1, a0_2, a0_3, a0_4, a0_5, a0_6, a0_7, a0_8] : List Int).length [a0_0, a0_1, a0_2, a0_3, a0_4, a0_5, a0_6, a0_7, a0_8] := by
  refine ⟨rfl, by show 9 ≤ _; decide, fun _ => ⟨_, rfl, fun j p hj => ⟨[.int .i64 p], rfl, rfl, fun i u hu => ?_⟩⟩⟩
  have hi : i = 0 := by
    have := (List.getElem?_eq_some_iff.1 hu).1
    simp at this
    exact this
  subst hi
  obtain rfl : Value.int .i64 p = u := by simpa using hu
  have hb := blk_new w (.cells #[.int .i64 a0_0, .int .i64 a0_1, .int .i64 a0_2, .int .i64 a0_3, .int .i64 a0_4, .int .i64 a0_5, .int .i64 a0_6, .int .i64 a0_7, .int .i64 a0_8] 23)
  have e : (Addr.add ⟨w.heap.size, 0, none⟩ (j * 1 + 0)) = ⟨w.heap.size, j, none⟩ := by unfold Addr.add; simp; exact fun h => h.symm
  show World.cell? _ (Addr.add ⟨w.heap.size, 0, none⟩ (j * 1 + 0)) = _
  rw [e]
  refine (blk_cell hb j).trans ?_
  rw [t9_cells]
  simp only [List.getElem?_toArray, List.getElem?_map]
  rw [hj]
  rfl
def impl_IsTable.f (a0_0 a0_1 a0_2 a0_3 a0_4 a0_5 a0_6 a0_7 a0_8 : Int) : Option Bool := some (isT9 [a0_0, a0_1, a0_2, a0_3, a0_4, a0_5, a0_6, a0_7, a0_8])
theorem impl_trits_nine (a0_0 a0_1 a0_2 a0_3 a0_4 a0_5 a0_6 a0_7 a0_8 : Int) : impl_trits.f 10 [a0_0, a0_1, a0_2, a0_3, a0_4, a0_5, a0_6, a0_7, a0_8] = some (isT9 [a0_0, a0_1, a0_2, a0_3, a0_4, a0_5, a0_6, a0_7, a0_8]) := impl_trits_go [a0_0, a0_1, a0_2, a0_3, a0_4, a0_5, a0_6, a0_7, a0_8] (by simp) 9 10 0 rfl (by omega)
set_option maxHeartbeats 8000000 in
set_option maxRecDepth 100000 in
theorem impl_IsTable.calls (a0_0 a0_1 a0_2 a0_3 a0_4 a0_5 a0_6 a0_7 a0_8 : Int) (r : Bool) (w : World) (h : impl_IsTable.f a0_0 a0_1 a0_2 a0_3 a0_4 a0_5 a0_6 a0_7 a0_8 = some r) :
    Calls Try.prog 58 #[.agg #[.int .i64 a0_0, .int .i64 a0_1, .int .i64 a0_2, .int .i64 a0_3, .int .i64 a0_4, .int .i64 a0_5, .int .i64 a0_6, .int .i64 a0_7, .int .i64 a0_8]] w fun e w' => e = .returned (.bool r) ∧ Below w.heap.size w w' := by
  have HR := Aside0.mk (Option.some.inj h)
  clear h
  have HB := Aside0.mk (Below.refl w.heap.size w)
  have HT := Aside0.mk (impl_trits_nine a0_0 a0_1 a0_2 a0_3 a0_4 a0_5 a0_6 a0_7 a0_8)
  have HC := Aside0.mk (t9_reads a0_0 a0_1 a0_2 a0_3 a0_4 a0_5 a0_6 a0_7 a0_8 w)
  go_enter Try.func58, Try.ntmps58
  go_wp2_with (go_at_call 65; (refine (impl_trits.calls 10 (some ⟨w.heap.size, 0, none⟩) 9 [a0_0, a0_1, a0_2, a0_3, a0_4, a0_5, a0_6, a0_7, a0_8] _ _ HC.out (Nat.le_refl 9) HT.out).mono ?_); rintro e w' ⟨rfl, ⟨nd, rfl⟩⟩)
  go_ret
  exact ⟨congrArg (fun b_ => Ending.returned (Value.bool b_)) HR.out, by repeat (first | (with_reducible first | exact HB.out | apply below_alloc | apply pw_below_drewN | apply below_drew1) | exact HB.out)⟩

-- NOT PRINTED: function 82 (slices_IndexFunc_int_int)

/-! ### slices_ContainsFunc_int_int: function 59 -/
theorem out_one (n m : Int) (g : Nat) (w : World) (hc : w.cell? ⟨g, 0, none⟩ = some (.int .i64 m)) : Calls Try.prog 60 #[.int .i64 n, .pointer (some ⟨g, 0, none⟩)] w fun e w' => e = .returned (.bool (decide (n < 0 ∨ m ≤ n))) ∧ Drawn0 w w' := by
  by_cases c : n < 0
  · have e : decide (n < 0 ∨ m ≤ n) = true := decide_eq_true (.inl c)
    rw [e]
    have c0 : decide (n < 0) = true := decide_eq_true c
    clear c e
    go_enter Try.func60, Try.ntmps60
    go_wp2
    repeat (go_quiet (fail); try go_wp2)
    go_ret
    exact ⟨rfl, by repeat (first | exact Drawn0.refl _ | apply Drawn0.step)⟩
  · have e : decide (n < 0 ∨ m ≤ n) = decide (m ≤ n) := by simp [c]
    rw [e]
    have c0 : decide (n < 0) = false := decide_eq_false c
    clear c e
    go_enter Try.func60, Try.ntmps60
    go_wp2
    repeat (go_quiet (fail); try go_wp2)
    go_ret
    exact ⟨rfl, by repeat (first | exact Drawn0.refl _ | apply Drawn0.step)⟩
def outB (l : List Int) (m : Int) : Bool := decide (∃ x, x ∈ l ∧ (x < 0 ∨ m ≤ x))
def outIdx (l : List Int) (m i : Int) : Prop := (0 ≤ i ∧ ∃ x, x ∈ l ∧ (x < 0 ∨ m ≤ x)) ∨ (i = -1 ∧ ∀ x, x ∈ l → 0 ≤ x ∧ x < m)
theorem rd_in (l : List Int) (i : Int) (h0 : 0 ≤ i) (h1 : i < (l.length : Int)) : rd l i ∈ l := by
  unfold rd
  rw [List.getD_eq_getElem?_getD, List.getElem?_eq_getElem (show i.toNat < l.length by omega)]
  exact List.getElem_mem _
theorem in_rd (l : List Int) (x : Int) (h : x ∈ l) : ∃ i : Int, 0 ≤ i ∧ i < (l.length : Int) ∧ rd l i = x := by
  obtain ⟨n, hn, e⟩ := List.mem_iff_getElem.1 h
  refine ⟨(n : Int), by omega, by omega, ?_⟩
  unfold rd
  rw [Int.toNat_natCast, List.getD_eq_getElem?_getD, List.getElem?_eq_getElem hn]
  exact e
set_option maxHeartbeats 8000000 in
set_option maxRecDepth 100000 in
theorem out_index (A0 : Option Addr) (c0 : Nat) (l0 : List Int) (m : Int) (g : Nat) (w : World) (hcl : w.cell? ⟨g, 0, none⟩ = some (.int .i64 m)) (hr0 : Kd.C (Kd.int .i64) w A0 l0.length l0) (hc0 : l0.length ≤ c0) :
    Calls Try.prog 82 #[.slice A0 l0.length c0, .func (.func 60) #[] #[.pointer (some ⟨g, 0, none⟩)]] w fun e w' => ∃ i : Int, e = .returned (.int .i64 i) ∧ Aside0 (outIdx l0 m i) ∧ Drawn0 w w' := by
  have HR0 := Aside0.mk hr0
  have hm : l0.length ≤ 9223372036854775807 := hr0.2.1
  have hcd : ∀ n, (w.drewN n).cell? ⟨g, 0, none⟩ = some (.int .i64 m) := fun n => by simpa using hcl
  have HCD := Aside0.mk hcd
  clear hr0 hc0 hcl hcd
  go_enter Try.func82, Try.ntmps82
  go_wp2
  go_loopg [8] (l0.length + 1) (fun kq v8 w' => ∃ i : Int, v8 = .int .i64 i ∧ Aside0 (0 ≤ i ∧ i ≤ (l0.length : Int) ∧ (kq : Int) = (l0.length : Int) + 1 - i ∧ ∀ j : Int, 0 ≤ j → j < i → 0 ≤ rd l0 j ∧ rd l0 j < m) ∧ Drawn0 w w')
  case atStart => exact ⟨0, rfl, ⟨by omega, by omega, by omega, fun j h h' => absurd h (by omega)⟩, by repeat (first | exact Drawn0.refl _ | apply Drawn0.step)⟩
  case round =>
    obtain ⟨i, rfl, HA, ⟨m1, rfl⟩⟩ := hrel
    by_cases hlt : i < (l0.length : Int)
    · have p : 0 ≤ i := HA.out.1
      obtain ⟨ad, e, hx⟩ := Kd.at_int HR0.out i p hlt
      cases e
      replace p := eq_true p
      have q0 : decide (i < (l0.length : Int)) = true := decide_eq_true hlt
      have HLT := Aside0.mk hlt
      replace hlt := eq_true hlt
      by_cases c : rd l0 i < 0 ∨ m ≤ rd l0 i
      · have HC := Aside0.mk c
        have hd := Aside0.mk (decide_eq_true c)
        clear c
        go_wp2_with (go_at_call 60; (with_reducible refine (out_one (rd l0 i) m g _ (by first | exact HCD.out _ | exact HCD.out 0)).mono ?_); rintro e w' ⟨rfl, ⟨nd, rfl⟩⟩; rw [hd.out])
        go_ret
        exact ⟨i, rfl, ⟨.inl ⟨HA.out.1, _, rd_in l0 i HA.out.1 HLT.out, HC.out⟩⟩, by repeat (first | exact Drawn0.refl _ | apply Drawn0.step)⟩
      · have HC := Aside0.mk c
        have hd := Aside0.mk (decide_eq_false c)
        clear c
        go_wp2_with (go_at_call 60; (with_reducible refine (out_one (rd l0 i) m g _ (by first | exact HCD.out _ | exact HCD.out 0)).mono ?_); rintro e w' ⟨rfl, ⟨nd, rfl⟩⟩; rw [hd.out])
        have hw : wrap64 (i + 1) = i + 1 := by have := HA.out; have := HLT.out; unfold wrap64; omega
        go_roundg (gk - 1)
        case measure => have := HA.out; have := HLT.out; omega
        case rel =>
          refine ⟨i + 1, by simp [hw], ⟨by have := HA.out; omega, by have := HLT.out; omega, by have := HA.out; have := HLT.out; omega, fun j h h' => ?_⟩, by repeat (first | exact Drawn0.refl _ | apply Drawn0.step)⟩
          by_cases e : j = i
          · subst e; have := HC.out; omega
          · exact HA.out.2.2.2 j h (by omega)
    · have q0 : decide (i < (l0.length : Int)) = false := decide_eq_false hlt
      have HLT := Aside0.mk hlt
      clear hlt
      go_wp2
      go_ret
      exact ⟨-1, rfl, ⟨.inr ⟨rfl, fun x hx => by
        obtain ⟨j, h0, h1, e⟩ := in_rd l0 x hx
        rw [← e]
        exact HA.out.2.2.2 j h0 (by have := HLT.out; omega)⟩⟩, by repeat (first | exact Drawn0.refl _ | apply Drawn0.step)⟩
theorem out_contains (A0 : Option Addr) (c0 : Nat) (l0 : List Int) (m : Int) (g : Nat) (w : World) (hcl : w.cell? ⟨g, 0, none⟩ = some (.int .i64 m)) (hr0 : Kd.C (Kd.int .i64) w A0 l0.length l0) (hc0 : l0.length ≤ c0) :
    Calls Try.prog 59 #[.slice A0 l0.length c0, .func (.func 60) #[] #[.pointer (some ⟨g, 0, none⟩)]] w fun e w' => e = .returned (.bool (outB l0 m)) ∧ Drawn0 w w' := by
  have HR0 := Aside0.mk hr0
  have HC0 := Aside0.mk hc0
  have HCL := Aside0.mk hcl
  clear hr0 hc0 hcl
  go_enter Try.func59, Try.ntmps59
  go_wp2_with (go_at_call 82; (with_reducible refine (out_index A0 c0 l0 m g _ ?s0 ?s1 HC0.out).mono ?_); (case s0 => first | exact HCL.out | simpa using HCL.out); (case s1 => repeat (first | exact HR0.out | (with_reducible refine Kd.C_drewN ?_ _) | (with_reducible refine Kd.C_drew ?_))); rintro e w' ⟨i, rfl, HI, ⟨nd, rfl⟩⟩)
  have hfin : decide (0 ≤ i) = outB l0 m := by
    unfold outB
    rcases HI.out with ⟨h0, x, hx, hb⟩ | ⟨rfl, h⟩
    · rw [decide_eq_true h0, decide_eq_true ⟨x, hx, hb⟩]
    · rw [decide_eq_false (show ¬ (0 : Int) ≤ -1 by decide), decide_eq_false (fun ⟨x, hx, hb⟩ => by have := h x hx; omega)]
  have HF := Aside0.mk hfin
  clear hfin
  go_ret
  exact ⟨by rw [← HF.out]; rfl, by repeat (first | exact Drawn0.refl _ | apply Drawn0.step)⟩
def slices_ContainsFunc_int_int.f (l0 : List Int) (a1 : Int) : Option Bool := some (outB l0 a1)
/-- A list of lines, asked by the function that holds their number in memory. -/
theorem slices_ContainsFunc_int_int.calls (A0 : Option Addr) (c0 : Nat) (l0 : List Int) (a1 : Int) (r : Bool) (w : World) (hr0 : Kd.C (Kd.int .i64) w A0 l0.length l0) (hc0 : l0.length ≤ c0) (h : slices_ContainsFunc_int_int.f l0 a1 = some r) {g : Nat}
    (hcl : w.cell? ⟨g, 0, none⟩ = some (.int .i64 a1) := by (refine (blk_cell (cs := #[.int .i64 _]) (t := 3) ?_ 0).trans (by with_unfolding_all rfl)); (repeat (first | refine blk_drewN ?_ _ | refine blk_drew ?_ | refine blk_alloc ?_ _)); exact Aside0.out (by assumption)) :
    Calls Try.prog 59 #[.slice A0 l0.length c0, .func (.func 60) #[] #[.pointer (some ⟨g, 0, none⟩)]] w fun e w' => e = .returned (.bool r) ∧ Drawn0 w w' := by
  obtain rfl := Option.some.inj h
  exact out_contains A0 c0 l0 a1 g w hcl hr0 hc0

theorem qa20 {α : Type} (l : List α) (i : Nat) (a : α) : l.toArray.setIfInBounds i a = (l.set i a).toArray := List.setIfInBounds_toArray ..
theorem qb20 {α : Type} (x a : α) (l : List α) : (x :: l).set 0 a = a :: l := rfl
theorem qc20 {α : Type} (x a : α) (l : List α) (n : Nat) : (x :: l).set (n + 1) a = x :: l.set n a := rfl
/-! ### impl_IsCircuit: function 20 -/
mutual
def impl_IsCircuit.j0 : Nat → Bool → Int → List (S46) → List Int → Option (Bool)
 | 0, _, _, _, _ => none
 | k + 1, x25, x102000, x102001, x102002 => if x25 = true then (some false) else (impl_IsCircuit.l0 k x102001 (x102001.length : Int) 0 x102000 x102001 x102002 (wrap64 (3 + x102000)))
def impl_IsCircuit.l0 : Nat → List (S46) → Int → Int → Int → List (S46) → List Int → Int → Option (Bool)
 | 0, _, _, _, _, _, _, _ => none
 | k + 1, x30, x31, x32, x102000, x102001, x102002, x103000 => if x32 < x31 then (if 0 ≤ x32 then (if x32 < (x30.length : Int) then ((impl_IsTable.f ((rd_T46 x30 x32).f0.f0) ((rd_T46 x30 x32).f0.f1) ((rd_T46 x30 x32).f0.f2) ((rd_T46 x30 x32).f0.f3) ((rd_T46 x30 x32).f0.f4) ((rd_T46 x30 x32).f0.f5) ((rd_T46 x30 x32).f0.f6) ((rd_T46 x30 x32).f0.f7) ((rd_T46 x30 x32).f0.f8)).bind fun t105 => (if t105 = true then (if ((rd_T46 x30 x32).f1) < 0 then (some false) else (if ((rd_T46 x30 x32).f1) ≥ x103000 then (some false) else (if ((rd_T46 x30 x32).f2) < 0 then (some false) else (if ((rd_T46 x30 x32).f2) ≥ x103000 then (some false) else (impl_IsCircuit.l0 k x30 x31 (wrap64 (x32 + 1)) x102000 x102001 x102002 (wrap64 (x103000 + 1))))))) else (some false))) else (none)) else (none)) else ((slices_ContainsFunc_int_int.f x102002 x103000).bind fun t106 => (some (!t106)))
end
def impl_IsCircuit.f (k : Nat) (a0_0 : Int) (l0_1 : List (S46)) (l0_2 : List Int) : Option (Bool) := if a0_0 < 0 then (impl_IsCircuit.j0 k true a0_0 l0_1 l0_2) else (if a0_0 > 8 then (impl_IsCircuit.j0 k true a0_0 l0_1 l0_2) else (if (l0_1.length : Int) > 60 then (impl_IsCircuit.j0 k true a0_0 l0_1 l0_2) else (impl_IsCircuit.j0 k (decide ((l0_2.length : Int) > 60)) a0_0 l0_1 l0_2)))
set_option maxHeartbeats 8000000 in
set_option maxRecDepth 100000 in
theorem impl_IsCircuit.calls (k : Nat) (a0_0 : Int) (A0_1 : Option Addr) (c0_1 : Nat) (l0_1 : List (S46)) (A0_2 : Option Addr) (c0_2 : Nat) (l0_2 : List Int) (r : Bool) (w : World) (hr0_1 : Kd.C k46 w A0_1 l0_1.length l0_1) (hc0_1 : l0_1.length ≤ c0_1) (hr0_2 : Kd.C (Kd.int .i64) w A0_2 l0_2.length l0_2) (hc0_2 : l0_2.length ≤ c0_2) (h : impl_IsCircuit.f k a0_0 l0_1 l0_2 = some r) :
  Calls Try.prog 20 #[.agg #[.int .i64 a0_0, .slice A0_1 l0_1.length c0_1, .slice A0_2 l0_2.length c0_2]] w fun e w' => e = .returned (.bool r) ∧ Below w.heap.size w w' := by
 have hu35 := Try.underlying35; have hu46 := Try.underlying46; have hu23 := Try.underlying23; have HR0_1 := am hr0_1; have HC0_1 := am hc0_1; clear hr0_1 hc0_1; have HR0_2 := am hr0_2; have HC0_2 := am hc0_2; clear hr0_2 hc0_2; have HB := am (Below.refl w.heap.size w)
 have H : (if a0_0 < 0 then (impl_IsCircuit.j0 k true a0_0 l0_1 l0_2) else (if a0_0 > 8 then (impl_IsCircuit.j0 k true a0_0 l0_1 l0_2) else (if (l0_1.length : Int) > 60 then (impl_IsCircuit.j0 k true a0_0 l0_1 l0_2) else (impl_IsCircuit.j0 k (decide ((l0_2.length : Int) > 60)) a0_0 l0_1 l0_2)))) = some r := h
 clear h; have HC2 := am H; clear H
 go_enter Try.func20, Try.ntmps20
 go_upto_region 1 with (first | ((with_reducible refine gate_dst (N := 1) rfl ?_); (try (refine gate_guard (by rfl) ?_; dsimp only)); refine box_event ?hg (N := 1) ?hd (cs := #[.int .i64 a0_0, .slice A0_1 l0_1.length c0_1, .slice A0_2 l0_2.length c0_2]) (t := 35) ?hr ?_; (case hd => rfl); (case hg => rfl); (case hr => first | (go_simp; done) | (go_simp; rfl)); intro gb101 hg w3 hbox hb; have n0_ := am (below_step (bB HB.out) hb); have n1_ := am (hbox); have n2_ := am ((by rw [hg]; exact (below_size (bB HB.out)) : w.heap.size ≤ gb101)); have n3_ := am ((by rw [hg]; exact (below_size (bB HB.out)) : w.heap.size ≤ gb101)); clear HB; have HB := n0_; have BK101 := n1_; have GW101 := n2_; have GE101 := n3_; clear n0_ n1_ n2_ n3_; clear hb hbox hg))
 (try simp only [Act.put, qa20, qb20, qc20])
 go_cut [25] (fun v25 wc => ∃ (kq : Nat) (x25_1 : Bool), v25 = .bool x25_1 ∧ Aside0 (impl_IsCircuit.j0 kq x25_1 a0_0 l0_1 l0_2 = some r) ∧ Aside0 (kq ≤ k) ∧ Aside0 (wc.heap[gb101]? = some (.cells #[.int .i64 a0_0, (.slice A0_1 l0_1.length c0_1), (.slice A0_2 l0_2.length c0_2)] 35 (0, 0))) ∧ Aside0 (Below w.heap.size w wc))
 case first =>
  have H := HC2.out; clear HC2
  by_cases c4 : a0_0 < 0
  ·rw [if_pos c4] at H
   have c4b0 : decide (a0_0 < 0) = true := decide_eq_true c4
   clear c4
   (first | rw [c4b0] | (simp only [i64_w, i32_w]; rw [c4b0]) | skip)
   have H' := am H
   clear H
   have hcz5_0 : w3.cell? ⟨gb101, 0, none⟩ = some (.int .i64 a0_0) := (blk_cell BK101.out 0).trans rfl
   have hcz5_1 : w3.cell? ⟨gb101, 1, none⟩ = some (.slice A0_1 l0_1.length c0_1) := (blk_cell BK101.out 1).trans rfl
   have hcz5_2 : w3.cell? ⟨gb101, 2, none⟩ = some (.slice A0_2 l0_2.length c0_2) := (blk_cell BK101.out 2).trans rfl
   have hfz5_0 := blk_frozen BK101.out 0; have hfz5_1 := blk_frozen BK101.out 1; have hfz5_2 := blk_frozen BK101.out 2
   go_wp2
   go_meet
   case rel => exact ⟨_, (true), (by first | rfl | (simp; done) | (simp [*]; done)), H', ⟨by first | omega | exact Nat.le_refl _⟩, ⟨bA BK101.out⟩, ⟨bB HB.out⟩⟩
  ·rw [if_neg c4] at H
   have c4b0 : decide (a0_0 < 0) = false := decide_eq_false c4
   clear c4
   (first | rw [c4b0] | (simp only [i64_w, i32_w]; rw [c4b0]) | skip)
   by_cases c6 : a0_0 > 8
   ·rw [if_pos c6] at H
    have c6b0 : decide (8 < a0_0) = true := decide_eq_true c6
    clear c6
    have H' := am H
    clear H
    have hcz7_0 : w3.cell? ⟨gb101, 0, none⟩ = some (.int .i64 a0_0) := (blk_cell BK101.out 0).trans rfl
    have hcz7_1 : w3.cell? ⟨gb101, 1, none⟩ = some (.slice A0_1 l0_1.length c0_1) := (blk_cell BK101.out 1).trans rfl
    have hcz7_2 : w3.cell? ⟨gb101, 2, none⟩ = some (.slice A0_2 l0_2.length c0_2) := (blk_cell BK101.out 2).trans rfl
    have hfz7_0 := blk_frozen BK101.out 0; have hfz7_1 := blk_frozen BK101.out 1; have hfz7_2 := blk_frozen BK101.out 2
    go_wp2
    go_meet
    case rel => exact ⟨_, (true), (by first | rfl | (simp; done) | (simp [*]; done)), H', ⟨by first | omega | exact Nat.le_refl _⟩, ⟨bA BK101.out⟩, ⟨bB HB.out⟩⟩
   ·rw [if_neg c6] at H
    have c6b0 : decide (8 < a0_0) = false := decide_eq_false c6
    clear c6
    by_cases c8 : (l0_1.length : Int) > 60
    ·rw [if_pos c8] at H
     have c8b0 : decide (60 < (l0_1.length : Int)) = true := decide_eq_true c8
     have c8b1 : decide (60 < l0_1.length) = true := decide_eq_true (by omega)
     clear c8
     have H' := am H
     clear H
     have hcz9_0 : w3.cell? ⟨gb101, 0, none⟩ = some (.int .i64 a0_0) := (blk_cell BK101.out 0).trans rfl
     have hcz9_1 : w3.cell? ⟨gb101, 1, none⟩ = some (.slice A0_1 l0_1.length c0_1) := (blk_cell BK101.out 1).trans rfl
     have hcz9_2 : w3.cell? ⟨gb101, 2, none⟩ = some (.slice A0_2 l0_2.length c0_2) := (blk_cell BK101.out 2).trans rfl
     have hfz9_0 := blk_frozen BK101.out 0; have hfz9_1 := blk_frozen BK101.out 1; have hfz9_2 := blk_frozen BK101.out 2
     go_wp2
     go_meet
     case rel => exact ⟨_, (true), (by first | rfl | (simp; done) | (simp [*]; done)), H', ⟨by first | omega | exact Nat.le_refl _⟩, ⟨bA BK101.out⟩, ⟨bB HB.out⟩⟩
    ·rw [if_neg c8] at H
     have c8b0 : decide (60 < (l0_1.length : Int)) = false := decide_eq_false c8
     have c8b1 : decide (60 < l0_1.length) = false := decide_eq_false (by omega)
     clear c8
     have H' := am H
     clear H
     have hcz10_0 : w3.cell? ⟨gb101, 0, none⟩ = some (.int .i64 a0_0) := (blk_cell BK101.out 0).trans rfl
     have hcz10_1 : w3.cell? ⟨gb101, 1, none⟩ = some (.slice A0_1 l0_1.length c0_1) := (blk_cell BK101.out 1).trans rfl
     have hcz10_2 : w3.cell? ⟨gb101, 2, none⟩ = some (.slice A0_2 l0_2.length c0_2) := (blk_cell BK101.out 2).trans rfl
     have hfz10_0 := blk_frozen BK101.out 0; have hfz10_1 := blk_frozen BK101.out 1; have hfz10_2 := blk_frozen BK101.out 2
     go_wp2
     go_meet
     case rel => exact ⟨_, (decide ((l0_2.length : Int) > 60)), (by first | rfl | (simp; done) | (simp [*]; done)), H', ⟨by first | omega | exact Nat.le_refl _⟩, ⟨bA BK101.out⟩, ⟨bB HB.out⟩⟩
 case rest =>
  clear HC2
  try clear c2
  try clear p2
  try clear c4
  try clear c4b0
  try clear c6
  try clear c6b0
  try clear c8
  try clear c8b0
  try clear c8b1
  try clear hcz10_0
  try clear hcz10_1
  try clear hcz10_2
  try clear hcz5_0
  try clear hcz5_1
  try clear hcz5_2
  try clear hcz7_0
  try clear hcz7_1
  try clear hcz7_2
  try clear hcz9_0
  try clear hcz9_1
  try clear hcz9_2
  try clear hfz10_0
  try clear hfz10_1
  try clear hfz10_2
  try clear hfz5_0
  try clear hfz5_1
  try clear hfz5_2
  try clear hfz7_0
  try clear hfz7_1
  try clear hfz7_2
  try clear hfz9_0
  try clear hfz9_1
  try clear hfz9_2
  obtain ⟨kq, x25_1, rfl, HA, HJ1, BK101, HB⟩ := hcut
  cases kq with
  | zero => exact absurd HA.out (by simp [impl_IsCircuit.j0])
  | succ kj1 =>
   have H := HA.out; clear HA
   simp only [impl_IsCircuit.j0] at H
   by_cases c11 : x25_1 = true
   ·subst c11
    have H1 : (some false) = some r := by rw [if_pos rfl] at H; exact H
    clear H; have H := H1; clear H1
    obtain rfl := Option.some.inj H
    go_wp2
    go_ret
    exact ⟨by first | rfl | (simp [errW_none, errW_some] <;> rfl) | (simp [*, errW_none, errW_some] <;> rfl), bB HB.out⟩
   ·replace c11 := Bool.eq_false_iff.mpr c11
    subst c11
    have H1 : (impl_IsCircuit.l0 kj1 l0_1 (l0_1.length : Int) 0 a0_0 l0_1 l0_2 (wrap64 (3 + a0_0))) = some r := by rw [if_neg (show ¬ (false = true) by decide)] at H; exact H
    clear H; have H := H1; clear H1
    have H' := am H
    clear H
    have hcz12_0 : wc.cell? ⟨gb101, 0, none⟩ = some (.int .i64 a0_0) := (blk_cell BK101.out 0).trans rfl
    have hcz12_1 : wc.cell? ⟨gb101, 1, none⟩ = some (.slice A0_1 l0_1.length c0_1) := (blk_cell BK101.out 1).trans rfl
    have hcz12_2 : wc.cell? ⟨gb101, 2, none⟩ = some (.slice A0_2 l0_2.length c0_2) := (blk_cell BK101.out 2).trans rfl
    have hfz12_0 := blk_frozen BK101.out 0; have hfz12_1 := blk_frozen BK101.out 1; have hfz12_2 := blk_frozen BK101.out 2
    go_wp2_with (first | ((with_reducible refine gate_dst (N := 3) rfl ?_); (try (refine gate_guard (by rfl) ?_; dsimp only)); refine box_event ?hg (N := 3) ?hd (cs := #[.int .i64 0]) (t := 3) ?hr ?_; (case hd => rfl); (case hg => rfl); (case hr => first | (go_simp; done) | (go_simp; rfl)); intro gb102 hg w13 hbox hb; have n0_ := am (blk_below (bA BK101.out) hb); have n1_ := am (below_step (bB HB.out) hb); have n2_ := am (hbox); have n3_ := am ((by rw [hg]; exact (below_size (bB HB.out)) : w.heap.size ≤ gb102)); have n4_ := am ((by rw [hg]; exact (below_size (bB HB.out)) : w.heap.size ≤ gb102)); have n5_ := am ((by rw [hg]; exact Nat.ne_of_lt (blk_lt (g := gb101) (o := .cells #[.int .i64 a0_0, .slice A0_1 l0_1.length c0_1, .slice A0_2 l0_2.length c0_2] 35 (0, 0)) (bA BK101.out)) : gb101 ≠ gb102)); have n6_ := am ((by rw [hg]; exact Nat.ne_of_gt (blk_lt (g := gb101) (o := .cells #[.int .i64 a0_0, .slice A0_1 l0_1.length c0_1, .slice A0_2 l0_2.length c0_2] 35 (0, 0)) (bA BK101.out)) : gb102 ≠ gb101)); clear BK101; clear HB; have BK101 := n0_; have HB := n1_; have BK102 := n2_; have GW102 := n3_; have GE102 := n4_; have NB101_102 := n5_; have NB102_101 := n6_; clear n0_ n1_ n2_ n3_ n4_ n5_ n6_; clear hb hbox hg; have hnb14 := NB102_101.out; have hnc14 := NB101_102.out; have hcz15_0 : w13.cell? ⟨gb102, 0, none⟩ = some (.int .i64 0) := (blk_cell BK102.out 0).trans rfl; have hfz15_0 := blk_frozen BK102.out 0; have hcz16_0 : w13.cell? ⟨gb101, 0, none⟩ = some (.int .i64 a0_0) := (blk_cell BK101.out 0).trans rfl; have hcz16_1 : w13.cell? ⟨gb101, 1, none⟩ = some (.slice A0_1 l0_1.length c0_1) := (blk_cell BK101.out 1).trans rfl; have hcz16_2 : w13.cell? ⟨gb101, 2, none⟩ = some (.slice A0_2 l0_2.length c0_2) := (blk_cell BK101.out 2).trans rfl; have hfz16_0 := blk_frozen BK101.out 0; have hfz16_1 := blk_frozen BK101.out 1; have hfz16_2 := blk_frozen BK101.out 2))
    go_loopg [32] kj1 (fun kq v32 w' => ∃ (x32_2 : Int) (x103000_2 : Int), v32 = .int .i64 x32_2 ∧ Aside0 (impl_IsCircuit.l0 kq l0_1 (l0_1.length : Int) x32_2 a0_0 l0_1 l0_2 x103000_2 = some r) ∧ Aside0 (kq ≤ kj1) ∧ Aside0 (w'.heap[gb101]? = some (.cells #[.int .i64 a0_0, (.slice A0_1 l0_1.length c0_1), (.slice A0_2 l0_2.length c0_2)] 35 (0, 0))) ∧ Aside0 (w'.heap[gb102]? = some (.cells #[.int .i64 x103000_2] 3 (0, 0))) ∧ Aside0 (Below w.heap.size w w'))
    case atStart => exact ⟨(0), (wrap64 (3 + a0_0)), (by first | rfl | (simp; done) | (simp [*]; done)), H', ⟨Nat.le_refl _⟩, ⟨by (with_reducible repeat (first | refine blk_drewN ?_ _ | refine blk_drew ?_ | refine blk_alloc ?_ _)); refine blk_far ?_ NB101_102.out _; (with_reducible repeat (first | refine blk_drewN ?_ _ | refine blk_drew ?_ | refine blk_alloc ?_ _)); exact BK101.out⟩, ⟨by (with_reducible repeat (first | refine blk_drewN ?_ _ | refine blk_drew ?_ | refine blk_alloc ?_ _)); refine blk_put (cs := #[.int .i64 0]) ?_ 0 _ rfl; (with_reducible repeat (first | refine blk_drewN ?_ _ | refine blk_drew ?_ | refine blk_alloc ?_ _)); exact BK102.out⟩, ⟨bB HB.out⟩⟩
    case round =>
     clear H'
     try clear c1
     try clear c2
     try clear p2
     try clear c4
     try clear c4b0
     try clear c6
     try clear c6b0
     try clear p6
     try clear c8
     try clear c8b0
     try clear c8b1
     try clear c11
     try clear c14
     try clear hcz10_0
     try clear hcz10_1
     try clear hcz10_2
     try clear hcz12_0
     try clear hcz12_1
     try clear hcz12_2
     try clear hcz15_0
     try clear hcz16_0
     try clear hcz16_1
     try clear hcz16_2
     try clear hcz5_0
     try clear hcz5_1
     try clear hcz5_2
     try clear hcz7_0
     try clear hcz7_1
     try clear hcz7_2
     try clear hcz9_0
     try clear hcz9_1
     try clear hcz9_2
     try clear hfz10_0
     try clear hfz10_1
     try clear hfz10_2
     try clear hfz12_0
     try clear hfz12_1
     try clear hfz12_2
     try clear hfz15_0
     try clear hfz16_0
     try clear hfz16_1
     try clear hfz16_2
     try clear hfz5_0
     try clear hfz5_1
     try clear hfz5_2
     try clear hfz7_0
     try clear hfz7_1
     try clear hfz7_2
     try clear hfz9_0
     try clear hfz9_1
     try clear hfz9_2
     try clear p2
     obtain ⟨x32_2, x103000_2, rfl, HA, HK2, BK101, BK102, HB⟩ := hrel
     cases gk with
     | zero => exact absurd HA.out (by simp [impl_IsCircuit.l0])
     | succ k2 =>
      have H := HA.out; clear HA
      simp only [impl_IsCircuit.l0] at H
      by_cases c17 : x32_2 < (l0_1.length : Int)
      ·rw [if_pos c17] at H
       have c17b0 : decide (x32_2 < (l0_1.length : Int)) = true := decide_eq_true c17
       clear c17
       by_cases c18 : 0 ≤ x32_2
       ·rw [if_pos c18] at H
        have c18b0 : decide (0 ≤ x32_2) = true := decide_eq_true c18
        clear c18
        by_cases c19 : x32_2 < (l0_1.length : Int)
        ·rw [if_pos c19] at H
         have c19b0 : decide (x32_2 < (l0_1.length : Int)) = true := decide_eq_true c19
         clear c19
         replace H := Option.bind_eq_some_iff.mp H
         obtain ⟨t105, A200, H⟩ := H
         replace H : (if t105 = true then (if ((rd_T46 l0_1 x32_2).f1) < 0 then (some false) else (if ((rd_T46 l0_1 x32_2).f1) ≥ x103000_2 then (some false) else (if ((rd_T46 l0_1 x32_2).f2) < 0 then (some false) else (if ((rd_T46 l0_1 x32_2).f2) ≥ x103000_2 then (some false) else (impl_IsCircuit.l0 k2 l0_1 (l0_1.length : Int) (wrap64 (x32_2 + 1)) a0_0 l0_1 l0_2 (wrap64 (x103000_2 + 1))))))) else (some false)) = some r := H
         have A20 := am A200; clear A200
         by_cases c21 : t105 = true
         ·subst c21
          have H1 : (if ((rd_T46 l0_1 x32_2).f1) < 0 then (some false) else (if ((rd_T46 l0_1 x32_2).f1) ≥ x103000_2 then (some false) else (if ((rd_T46 l0_1 x32_2).f2) < 0 then (some false) else (if ((rd_T46 l0_1 x32_2).f2) ≥ x103000_2 then (some false) else (impl_IsCircuit.l0 k2 l0_1 (l0_1.length : Int) (wrap64 (x32_2 + 1)) a0_0 l0_1 l0_2 (wrap64 (x103000_2 + 1))))))) = some r := by rw [if_pos rfl] at H; exact H
          clear H; have H := H1; clear H1
          by_cases c22 : ((rd_T46 l0_1 x32_2).f1) < 0
          ·rw [if_pos c22] at H
           have c22b0 : decide (((rd_T46 l0_1 x32_2).f1) < 0) = true := decide_eq_true c22
           clear c22
           obtain rfl := Option.some.inj H
           have p103 : 0 ≤ (x32_2 : Int) := of_decide_eq_true (by first | with_reducible assumption | assumption)
           have q103 : x32_2 < (l0_1.length : Int) := of_decide_eq_true (by first | with_reducible assumption | assumption)
           obtain ⟨ad103, e103, hx103_0, hx103_1, hx103_2, hx103_3, hx103_4, hx103_5, hx103_6, hx103_7, hx103_8, hx103_9, hx103_10⟩ := at_T46 HR0_1.out x32_2 p103 q103
           cases e103
           replace hx103_0 := (HB.out.cell (World.block_lt_of_cell? w _ hx103_0)).trans hx103_0
           replace hx103_1 := (HB.out.cell (World.block_lt_of_cell? w _ hx103_1)).trans hx103_1
           replace hx103_2 := (HB.out.cell (World.block_lt_of_cell? w _ hx103_2)).trans hx103_2
           replace hx103_3 := (HB.out.cell (World.block_lt_of_cell? w _ hx103_3)).trans hx103_3
           replace hx103_4 := (HB.out.cell (World.block_lt_of_cell? w _ hx103_4)).trans hx103_4
           replace hx103_5 := (HB.out.cell (World.block_lt_of_cell? w _ hx103_5)).trans hx103_5
           replace hx103_6 := (HB.out.cell (World.block_lt_of_cell? w _ hx103_6)).trans hx103_6
           replace hx103_7 := (HB.out.cell (World.block_lt_of_cell? w _ hx103_7)).trans hx103_7
           replace hx103_8 := (HB.out.cell (World.block_lt_of_cell? w _ hx103_8)).trans hx103_8
           replace hx103_9 := (HB.out.cell (World.block_lt_of_cell? w _ hx103_9)).trans hx103_9
           replace hx103_10 := (HB.out.cell (World.block_lt_of_cell? w _ hx103_10)).trans hx103_10
           replace p103 := eq_true p103
           replace q103 := eq_true q103
           go_wp2_with (first | ((with_reducible refine gate_dst (N := 5) rfl ?_); (try (refine gate_guard (by rfl) ?_; dsimp only)); refine box_event ?hg (N := 5) ?hd (cs := #[.int .i64 0, .int .i64 0, .int .i64 0, .int .i64 0, .int .i64 0, .int .i64 0, .int .i64 0, .int .i64 0, .int .i64 0, .int .i64 0, .int .i64 0]) (t := 46) ?hr ?_; (case hd => rfl); (case hg => rfl); (case hr => first | (go_simp; done) | (go_simp; rfl)); intro gb104 hg w23 hbox hb; have n0_ := am (blk_below (bA BK101.out) hb); have n1_ := am (blk_below (bA BK102.out) hb); have n2_ := am (below_step (bB HB.out) hb); have n3_ := am (hbox); have n4_ := am ((by rw [hg]; exact (below_size (bB HB.out)) : w.heap.size ≤ gb104)); have n5_ := am ((by rw [hg]; exact (below_size (bB HB.out)) : w.heap.size ≤ gb104)); have n6_ := am ((by rw [hg]; exact Nat.ne_of_lt (blk_lt (g := gb101) (o := .cells #[.int .i64 a0_0, .slice (some ad103) l0_1.length c0_1, .slice A0_2 l0_2.length c0_2] 35 (0, 0)) (bA BK101.out)) : gb101 ≠ gb104)); have n7_ := am ((by rw [hg]; exact Nat.ne_of_gt (blk_lt (g := gb101) (o := .cells #[.int .i64 a0_0, .slice (some ad103) l0_1.length c0_1, .slice A0_2 l0_2.length c0_2] 35 (0, 0)) (bA BK101.out)) : gb104 ≠ gb101)); have n8_ := am ((by rw [hg]; exact Nat.ne_of_lt (blk_lt (g := gb102) (o := .cells #[.int .i64 x103000_2] 3 (0, 0)) (bA BK102.out)) : gb102 ≠ gb104)); have n9_ := am ((by rw [hg]; exact Nat.ne_of_gt (blk_lt (g := gb102) (o := .cells #[.int .i64 x103000_2] 3 (0, 0)) (bA BK102.out)) : gb104 ≠ gb102)); clear BK101; clear BK102; clear HB; have BK101 := n0_; have BK102 := n1_; have HB := n2_; have BK104 := n3_; have GW104 := n4_; have GE104 := n5_; have NB101_104 := n6_; have NB104_101 := n7_; have NB102_104 := n8_; have NB104_102 := n9_; clear n0_ n1_ n2_ n3_ n4_ n5_ n6_ n7_ n8_ n9_; clear hb hbox hg; have hnb24 := NB104_101.out; have hnc24 := NB101_104.out; have hnb25 := NB104_102.out; have hnc25 := NB102_104.out; have hcz26_0 : w23.cell? ⟨gb104, 0, none⟩ = some (.int .i64 0) := (blk_cell BK104.out 0).trans rfl; have hcz26_1 : w23.cell? ⟨gb104, 1, none⟩ = some (.int .i64 0) := (blk_cell BK104.out 1).trans rfl; have hcz26_2 : w23.cell? ⟨gb104, 2, none⟩ = some (.int .i64 0) := (blk_cell BK104.out 2).trans rfl; have hcz26_3 : w23.cell? ⟨gb104, 3, none⟩ = some (.int .i64 0) := (blk_cell BK104.out 3).trans rfl; have hcz26_4 : w23.cell? ⟨gb104, 4, none⟩ = some (.int .i64 0) := (blk_cell BK104.out 4).trans rfl; have hcz26_5 : w23.cell? ⟨gb104, 5, none⟩ = some (.int .i64 0) := (blk_cell BK104.out 5).trans rfl; have hcz26_6 : w23.cell? ⟨gb104, 6, none⟩ = some (.int .i64 0) := (blk_cell BK104.out 6).trans rfl; have hcz26_7 : w23.cell? ⟨gb104, 7, none⟩ = some (.int .i64 0) := (blk_cell BK104.out 7).trans rfl; have hcz26_8 : w23.cell? ⟨gb104, 8, none⟩ = some (.int .i64 0) := (blk_cell BK104.out 8).trans rfl; have hcz26_9 : w23.cell? ⟨gb104, 9, none⟩ = some (.int .i64 0) := (blk_cell BK104.out 9).trans rfl; have hcz26_10 : w23.cell? ⟨gb104, 10, none⟩ = some (.int .i64 0) := (blk_cell BK104.out 10).trans rfl; have hfz26_0 := blk_frozen BK104.out 0; have hfz26_1 := blk_frozen BK104.out 1; have hfz26_2 := blk_frozen BK104.out 2; have hfz26_3 := blk_frozen BK104.out 3; have hfz26_4 := blk_frozen BK104.out 4; have hfz26_5 := blk_frozen BK104.out 5; have hfz26_6 := blk_frozen BK104.out 6; have hfz26_7 := blk_frozen BK104.out 7; have hfz26_8 := blk_frozen BK104.out 8; have hfz26_9 := blk_frozen BK104.out 9; have hfz26_10 := blk_frozen BK104.out 10) | ((with_reducible refine gate_callee (f := 58) rfl ?_); refine goesL_ (some 38) rfl rfl Try.func58 (by kernel_rfl) rfl #[.agg #[.int .i64 ((rd_T46 l0_1 x32_2).f0.f0), .int .i64 ((rd_T46 l0_1 x32_2).f0.f1), .int .i64 ((rd_T46 l0_1 x32_2).f0.f2), .int .i64 ((rd_T46 l0_1 x32_2).f0.f3), .int .i64 ((rd_T46 l0_1 x32_2).f0.f4), .int .i64 ((rd_T46 l0_1 x32_2).f0.f5), .int .i64 ((rd_T46 l0_1 x32_2).f0.f6), .int .i64 ((rd_T46 l0_1 x32_2).f0.f7), .int .i64 ((rd_T46 l0_1 x32_2).f0.f8)]] rfl bE ?_; (with_reducible refine (impl_IsTable.calls ((rd_T46 l0_1 x32_2).f0.f0) ((rd_T46 l0_1 x32_2).f0.f1) ((rd_T46 l0_1 x32_2).f0.f2) ((rd_T46 l0_1 x32_2).f0.f3) ((rd_T46 l0_1 x32_2).f0.f4) ((rd_T46 l0_1 x32_2).f0.f5) ((rd_T46 l0_1 x32_2).f0.f6) ((rd_T46 l0_1 x32_2).f0.f7) ((rd_T46 l0_1 x32_2).f0.f8) true _ A20.out).mono ?_); rintro e w27 ⟨rfl, hb⟩; refine ⟨_, rfl, ?_⟩; have n0_ := am (blk_below (g := gb101) (o := .cells #[.int .i64 a0_0, .slice (some ad103) l0_1.length c0_1, .slice A0_2 l0_2.length c0_2] 35 (0, 0)) (by (with_reducible repeat (first | refine blk_drewN ?_ _ | refine blk_drew ?_ | refine blk_alloc ?_ _)); refine blk_far ?_ NB101_104.out _; (with_reducible repeat (first | refine blk_drewN ?_ _ | refine blk_drew ?_ | refine blk_alloc ?_ _)); refine blk_far ?_ NB101_104.out _; (with_reducible repeat (first | refine blk_drewN ?_ _ | refine blk_drew ?_ | refine blk_alloc ?_ _)); refine blk_far ?_ NB101_104.out _; (with_reducible repeat (first | refine blk_drewN ?_ _ | refine blk_drew ?_ | refine blk_alloc ?_ _)); refine blk_far ?_ NB101_104.out _; (with_reducible repeat (first | refine blk_drewN ?_ _ | refine blk_drew ?_ | refine blk_alloc ?_ _)); refine blk_far ?_ NB101_104.out _; (with_reducible repeat (first | refine blk_drewN ?_ _ | refine blk_drew ?_ | refine blk_alloc ?_ _)); refine blk_far ?_ NB101_104.out _; (with_reducible repeat (first | refine blk_drewN ?_ _ | refine blk_drew ?_ | refine blk_alloc ?_ _)); refine blk_far ?_ NB101_104.out _; (with_reducible repeat (first | refine blk_drewN ?_ _ | refine blk_drew ?_ | refine blk_alloc ?_ _)); refine blk_far ?_ NB101_104.out _; (with_reducible repeat (first | refine blk_drewN ?_ _ | refine blk_drew ?_ | refine blk_alloc ?_ _)); refine blk_far ?_ NB101_104.out _; (with_reducible repeat (first | refine blk_drewN ?_ _ | refine blk_drew ?_ | refine blk_alloc ?_ _)); refine blk_far ?_ NB101_104.out _; (with_reducible repeat (first | refine blk_drewN ?_ _ | refine blk_drew ?_ | refine blk_alloc ?_ _)); refine blk_far ?_ NB101_104.out _; (with_reducible repeat (first | refine blk_drewN ?_ _ | refine blk_drew ?_ | refine blk_alloc ?_ _)); exact BK101.out) hb); have n1_ := am (blk_below (g := gb102) (o := .cells #[.int .i64 x103000_2] 3 (0, 0)) (by (with_reducible repeat (first | refine blk_drewN ?_ _ | refine blk_drew ?_ | refine blk_alloc ?_ _)); refine blk_far ?_ NB102_104.out _; (with_reducible repeat (first | refine blk_drewN ?_ _ | refine blk_drew ?_ | refine blk_alloc ?_ _)); refine blk_far ?_ NB102_104.out _; (with_reducible repeat (first | refine blk_drewN ?_ _ | refine blk_drew ?_ | refine blk_alloc ?_ _)); refine blk_far ?_ NB102_104.out _; (with_reducible repeat (first | refine blk_drewN ?_ _ | refine blk_drew ?_ | refine blk_alloc ?_ _)); refine blk_far ?_ NB102_104.out _; (with_reducible repeat (first | refine blk_drewN ?_ _ | refine blk_drew ?_ | refine blk_alloc ?_ _)); refine blk_far ?_ NB102_104.out _; (with_reducible repeat (first | refine blk_drewN ?_ _ | refine blk_drew ?_ | refine blk_alloc ?_ _)); refine blk_far ?_ NB102_104.out _; (with_reducible repeat (first | refine blk_drewN ?_ _ | refine blk_drew ?_ | refine blk_alloc ?_ _)); refine blk_far ?_ NB102_104.out _; (with_reducible repeat (first | refine blk_drewN ?_ _ | refine blk_drew ?_ | refine blk_alloc ?_ _)); refine blk_far ?_ NB102_104.out _; (with_reducible repeat (first | refine blk_drewN ?_ _ | refine blk_drew ?_ | refine blk_alloc ?_ _)); refine blk_far ?_ NB102_104.out _; (with_reducible repeat (first | refine blk_drewN ?_ _ | refine blk_drew ?_ | refine blk_alloc ?_ _)); refine blk_far ?_ NB102_104.out _; (with_reducible repeat (first | refine blk_drewN ?_ _ | refine blk_drew ?_ | refine blk_alloc ?_ _)); refine blk_far ?_ NB102_104.out _; (with_reducible repeat (first | refine blk_drewN ?_ _ | refine blk_drew ?_ | refine blk_alloc ?_ _)); exact BK102.out) hb); have n2_ := am (blk_below (g := gb104) (o := .cells #[.int .i64 ((rd_T46 l0_1 x32_2).f0.f0), .int .i64 ((rd_T46 l0_1 x32_2).f0.f1), .int .i64 ((rd_T46 l0_1 x32_2).f0.f2), .int .i64 ((rd_T46 l0_1 x32_2).f0.f3), .int .i64 ((rd_T46 l0_1 x32_2).f0.f4), .int .i64 ((rd_T46 l0_1 x32_2).f0.f5), .int .i64 ((rd_T46 l0_1 x32_2).f0.f6), .int .i64 ((rd_T46 l0_1 x32_2).f0.f7), .int .i64 ((rd_T46 l0_1 x32_2).f0.f8), .int .i64 ((rd_T46 l0_1 x32_2).f1), .int .i64 ((rd_T46 l0_1 x32_2).f2)] 46 (0, 0)) (by (with_reducible repeat (first | refine blk_drewN ?_ _ | refine blk_drew ?_ | refine blk_alloc ?_ _)); refine blk_put (cs := #[.int .i64 ((rd_T46 l0_1 x32_2).f0.f0), .int .i64 ((rd_T46 l0_1 x32_2).f0.f1), .int .i64 ((rd_T46 l0_1 x32_2).f0.f2), .int .i64 ((rd_T46 l0_1 x32_2).f0.f3), .int .i64 ((rd_T46 l0_1 x32_2).f0.f4), .int .i64 ((rd_T46 l0_1 x32_2).f0.f5), .int .i64 ((rd_T46 l0_1 x32_2).f0.f6), .int .i64 ((rd_T46 l0_1 x32_2).f0.f7), .int .i64 ((rd_T46 l0_1 x32_2).f0.f8), .int .i64 ((rd_T46 l0_1 x32_2).f1), .int .i64 0]) ?_ 10 _ rfl; (with_reducible repeat (first | refine blk_drewN ?_ _ | refine blk_drew ?_ | refine blk_alloc ?_ _)); refine blk_put (cs := #[.int .i64 ((rd_T46 l0_1 x32_2).f0.f0), .int .i64 ((rd_T46 l0_1 x32_2).f0.f1), .int .i64 ((rd_T46 l0_1 x32_2).f0.f2), .int .i64 ((rd_T46 l0_1 x32_2).f0.f3), .int .i64 ((rd_T46 l0_1 x32_2).f0.f4), .int .i64 ((rd_T46 l0_1 x32_2).f0.f5), .int .i64 ((rd_T46 l0_1 x32_2).f0.f6), .int .i64 ((rd_T46 l0_1 x32_2).f0.f7), .int .i64 ((rd_T46 l0_1 x32_2).f0.f8), .int .i64 0, .int .i64 0]) ?_ 9 _ rfl; (with_reducible repeat (first | refine blk_drewN ?_ _ | refine blk_drew ?_ | refine blk_alloc ?_ _)); refine blk_put (cs := #[.int .i64 ((rd_T46 l0_1 x32_2).f0.f0), .int .i64 ((rd_T46 l0_1 x32_2).f0.f1), .int .i64 ((rd_T46 l0_1 x32_2).f0.f2), .int .i64 ((rd_T46 l0_1 x32_2).f0.f3), .int .i64 ((rd_T46 l0_1 x32_2).f0.f4), .int .i64 ((rd_T46 l0_1 x32_2).f0.f5), .int .i64 ((rd_T46 l0_1 x32_2).f0.f6), .int .i64 ((rd_T46 l0_1 x32_2).f0.f7), .int .i64 0, .int .i64 0, .int .i64 0]) ?_ 8 _ rfl; (with_reducible repeat (first | refine blk_drewN ?_ _ | refine blk_drew ?_ | refine blk_alloc ?_ _)); refine blk_put (cs := #[.int .i64 ((rd_T46 l0_1 x32_2).f0.f0), .int .i64 ((rd_T46 l0_1 x32_2).f0.f1), .int .i64 ((rd_T46 l0_1 x32_2).f0.f2), .int .i64 ((rd_T46 l0_1 x32_2).f0.f3), .int .i64 ((rd_T46 l0_1 x32_2).f0.f4), .int .i64 ((rd_T46 l0_1 x32_2).f0.f5), .int .i64 ((rd_T46 l0_1 x32_2).f0.f6), .int .i64 0, .int .i64 0, .int .i64 0, .int .i64 0]) ?_ 7 _ rfl; (with_reducible repeat (first | refine blk_drewN ?_ _ | refine blk_drew ?_ | refine blk_alloc ?_ _)); refine blk_put (cs := #[.int .i64 ((rd_T46 l0_1 x32_2).f0.f0), .int .i64 ((rd_T46 l0_1 x32_2).f0.f1), .int .i64 ((rd_T46 l0_1 x32_2).f0.f2), .int .i64 ((rd_T46 l0_1 x32_2).f0.f3), .int .i64 ((rd_T46 l0_1 x32_2).f0.f4), .int .i64 ((rd_T46 l0_1 x32_2).f0.f5), .int .i64 0, .int .i64 0, .int .i64 0, .int .i64 0, .int .i64 0]) ?_ 6 _ rfl; (with_reducible repeat (first | refine blk_drewN ?_ _ | refine blk_drew ?_ | refine blk_alloc ?_ _)); refine blk_put (cs := #[.int .i64 ((rd_T46 l0_1 x32_2).f0.f0), .int .i64 ((rd_T46 l0_1 x32_2).f0.f1), .int .i64 ((rd_T46 l0_1 x32_2).f0.f2), .int .i64 ((rd_T46 l0_1 x32_2).f0.f3), .int .i64 ((rd_T46 l0_1 x32_2).f0.f4), .int .i64 0, .int .i64 0, .int .i64 0, .int .i64 0, .int .i64 0, .int .i64 0]) ?_ 5 _ rfl; (with_reducible repeat (first | refine blk_drewN ?_ _ | refine blk_drew ?_ | refine blk_alloc ?_ _)); refine blk_put (cs := #[.int .i64 ((rd_T46 l0_1 x32_2).f0.f0), .int .i64 ((rd_T46 l0_1 x32_2).f0.f1), .int .i64 ((rd_T46 l0_1 x32_2).f0.f2), .int .i64 ((rd_T46 l0_1 x32_2).f0.f3), .int .i64 0, .int .i64 0, .int .i64 0, .int .i64 0, .int .i64 0, .int .i64 0, .int .i64 0]) ?_ 4 _ rfl; (with_reducible repeat (first | refine blk_drewN ?_ _ | refine blk_drew ?_ | refine blk_alloc ?_ _)); refine blk_put (cs := #[.int .i64 ((rd_T46 l0_1 x32_2).f0.f0), .int .i64 ((rd_T46 l0_1 x32_2).f0.f1), .int .i64 ((rd_T46 l0_1 x32_2).f0.f2), .int .i64 0, .int .i64 0, .int .i64 0, .int .i64 0, .int .i64 0, .int .i64 0, .int .i64 0, .int .i64 0]) ?_ 3 _ rfl; (with_reducible repeat (first | refine blk_drewN ?_ _ | refine blk_drew ?_ | refine blk_alloc ?_ _)); refine blk_put (cs := #[.int .i64 ((rd_T46 l0_1 x32_2).f0.f0), .int .i64 ((rd_T46 l0_1 x32_2).f0.f1), .int .i64 0, .int .i64 0, .int .i64 0, .int .i64 0, .int .i64 0, .int .i64 0, .int .i64 0, .int .i64 0, .int .i64 0]) ?_ 2 _ rfl; (with_reducible repeat (first | refine blk_drewN ?_ _ | refine blk_drew ?_ | refine blk_alloc ?_ _)); refine blk_put (cs := #[.int .i64 ((rd_T46 l0_1 x32_2).f0.f0), .int .i64 0, .int .i64 0, .int .i64 0, .int .i64 0, .int .i64 0, .int .i64 0, .int .i64 0, .int .i64 0, .int .i64 0, .int .i64 0]) ?_ 1 _ rfl; (with_reducible repeat (first | refine blk_drewN ?_ _ | refine blk_drew ?_ | refine blk_alloc ?_ _)); refine blk_put (cs := #[.int .i64 0, .int .i64 0, .int .i64 0, .int .i64 0, .int .i64 0, .int .i64 0, .int .i64 0, .int .i64 0, .int .i64 0, .int .i64 0, .int .i64 0]) ?_ 0 _ rfl; (with_reducible repeat (first | refine blk_drewN ?_ _ | refine blk_drew ?_ | refine blk_alloc ?_ _)); exact BK104.out) hb); have n3_ := am (below_step (bB HB.out) hb); clear BK101; clear BK102; clear BK104; clear HB; have BK101 := n0_; have BK102 := n1_; have BK104 := n2_; have HB := n3_; clear n0_ n1_ n2_ n3_; (try clear hb); (try clear hb2); (try clear hk); (try clear hi); have hcz28_0 : w27.cell? ⟨gb104, 0, none⟩ = some (.int .i64 ((rd_T46 l0_1 x32_2).f0.f0)) := (blk_cell BK104.out 0).trans rfl; have hcz28_1 : w27.cell? ⟨gb104, 1, none⟩ = some (.int .i64 ((rd_T46 l0_1 x32_2).f0.f1)) := (blk_cell BK104.out 1).trans rfl; have hcz28_2 : w27.cell? ⟨gb104, 2, none⟩ = some (.int .i64 ((rd_T46 l0_1 x32_2).f0.f2)) := (blk_cell BK104.out 2).trans rfl; have hcz28_3 : w27.cell? ⟨gb104, 3, none⟩ = some (.int .i64 ((rd_T46 l0_1 x32_2).f0.f3)) := (blk_cell BK104.out 3).trans rfl; have hcz28_4 : w27.cell? ⟨gb104, 4, none⟩ = some (.int .i64 ((rd_T46 l0_1 x32_2).f0.f4)) := (blk_cell BK104.out 4).trans rfl; have hcz28_5 : w27.cell? ⟨gb104, 5, none⟩ = some (.int .i64 ((rd_T46 l0_1 x32_2).f0.f5)) := (blk_cell BK104.out 5).trans rfl; have hcz28_6 : w27.cell? ⟨gb104, 6, none⟩ = some (.int .i64 ((rd_T46 l0_1 x32_2).f0.f6)) := (blk_cell BK104.out 6).trans rfl; have hcz28_7 : w27.cell? ⟨gb104, 7, none⟩ = some (.int .i64 ((rd_T46 l0_1 x32_2).f0.f7)) := (blk_cell BK104.out 7).trans rfl; have hcz28_8 : w27.cell? ⟨gb104, 8, none⟩ = some (.int .i64 ((rd_T46 l0_1 x32_2).f0.f8)) := (blk_cell BK104.out 8).trans rfl; have hcz28_9 : w27.cell? ⟨gb104, 9, none⟩ = some (.int .i64 ((rd_T46 l0_1 x32_2).f1)) := (blk_cell BK104.out 9).trans rfl; have hcz28_10 : w27.cell? ⟨gb104, 10, none⟩ = some (.int .i64 ((rd_T46 l0_1 x32_2).f2)) := (blk_cell BK104.out 10).trans rfl; have hfz28_0 := blk_frozen BK104.out 0; have hfz28_1 := blk_frozen BK104.out 1; have hfz28_2 := blk_frozen BK104.out 2; have hfz28_3 := blk_frozen BK104.out 3; have hfz28_4 := blk_frozen BK104.out 4; have hfz28_5 := blk_frozen BK104.out 5; have hfz28_6 := blk_frozen BK104.out 6; have hfz28_7 := blk_frozen BK104.out 7; have hfz28_8 := blk_frozen BK104.out 8; have hfz28_9 := blk_frozen BK104.out 9; have hfz28_10 := blk_frozen BK104.out 10))
           go_ret
           exact ⟨by first | rfl | (simp [errW_none, errW_some] <;> rfl) | (simp [*, errW_none, errW_some] <;> rfl), bB HB.out⟩
          ·rw [if_neg c22] at H
           have c22b0 : decide (((rd_T46 l0_1 x32_2).f1) < 0) = false := decide_eq_false c22
           clear c22
           by_cases c29 : ((rd_T46 l0_1 x32_2).f1) ≥ x103000_2
           ·rw [if_pos c29] at H
            have c29b0 : decide (x103000_2 ≤ ((rd_T46 l0_1 x32_2).f1)) = true := decide_eq_true c29
            clear c29
            obtain rfl := Option.some.inj H
            have p103 : 0 ≤ (x32_2 : Int) := of_decide_eq_true (by first | with_reducible assumption | assumption)
            have q103 : x32_2 < (l0_1.length : Int) := of_decide_eq_true (by first | with_reducible assumption | assumption)
            obtain ⟨ad103, e103, hx103_0, hx103_1, hx103_2, hx103_3, hx103_4, hx103_5, hx103_6, hx103_7, hx103_8, hx103_9, hx103_10⟩ := at_T46 HR0_1.out x32_2 p103 q103
            cases e103
            replace hx103_0 := (HB.out.cell (World.block_lt_of_cell? w _ hx103_0)).trans hx103_0
            replace hx103_1 := (HB.out.cell (World.block_lt_of_cell? w _ hx103_1)).trans hx103_1
            replace hx103_2 := (HB.out.cell (World.block_lt_of_cell? w _ hx103_2)).trans hx103_2
            replace hx103_3 := (HB.out.cell (World.block_lt_of_cell? w _ hx103_3)).trans hx103_3
            replace hx103_4 := (HB.out.cell (World.block_lt_of_cell? w _ hx103_4)).trans hx103_4
            replace hx103_5 := (HB.out.cell (World.block_lt_of_cell? w _ hx103_5)).trans hx103_5
            replace hx103_6 := (HB.out.cell (World.block_lt_of_cell? w _ hx103_6)).trans hx103_6
            replace hx103_7 := (HB.out.cell (World.block_lt_of_cell? w _ hx103_7)).trans hx103_7
            replace hx103_8 := (HB.out.cell (World.block_lt_of_cell? w _ hx103_8)).trans hx103_8
            replace hx103_9 := (HB.out.cell (World.block_lt_of_cell? w _ hx103_9)).trans hx103_9
            replace hx103_10 := (HB.out.cell (World.block_lt_of_cell? w _ hx103_10)).trans hx103_10
            replace p103 := eq_true p103
            replace q103 := eq_true q103
            go_wp2_with (first | ((with_reducible refine gate_dst (N := 5) rfl ?_); (try (refine gate_guard (by rfl) ?_; dsimp only)); refine box_event ?hg (N := 5) ?hd (cs := #[.int .i64 0, .int .i64 0, .int .i64 0, .int .i64 0, .int .i64 0, .int .i64 0, .int .i64 0, .int .i64 0, .int .i64 0, .int .i64 0, .int .i64 0]) (t := 46) ?hr ?_; (case hd => rfl); (case hg => rfl); (case hr => first | (go_simp; done) | (go_simp; rfl)); intro gb104 hg w30 hbox hb; have n0_ := am (blk_below (bA BK101.out) hb); have n1_ := am (blk_below (bA BK102.out) hb); have n2_ := am (below_step (bB HB.out) hb); have n3_ := am (hbox); have n4_ := am ((by rw [hg]; exact (below_size (bB HB.out)) : w.heap.size ≤ gb104)); have n5_ := am ((by rw [hg]; exact (below_size (bB HB.out)) : w.heap.size ≤ gb104)); have n6_ := am ((by rw [hg]; exact Nat.ne_of_lt (blk_lt (g := gb101) (o := .cells #[.int .i64 a0_0, .slice (some ad103) l0_1.length c0_1, .slice A0_2 l0_2.length c0_2] 35 (0, 0)) (bA BK101.out)) : gb101 ≠ gb104)); have n7_ := am ((by rw [hg]; exact Nat.ne_of_gt (blk_lt (g := gb101) (o := .cells #[.int .i64 a0_0, .slice (some ad103) l0_1.length c0_1, .slice A0_2 l0_2.length c0_2] 35 (0, 0)) (bA BK101.out)) : gb104 ≠ gb101)); have n8_ := am ((by rw [hg]; exact Nat.ne_of_lt (blk_lt (g := gb102) (o := .cells #[.int .i64 x103000_2] 3 (0, 0)) (bA BK102.out)) : gb102 ≠ gb104)); have n9_ := am ((by rw [hg]; exact Nat.ne_of_gt (blk_lt (g := gb102) (o := .cells #[.int .i64 x103000_2] 3 (0, 0)) (bA BK102.out)) : gb104 ≠ gb102)); clear BK101; clear BK102; clear HB; have BK101 := n0_; have BK102 := n1_; have HB := n2_; have BK104 := n3_; have GW104 := n4_; have GE104 := n5_; have NB101_104 := n6_; have NB104_101 := n7_; have NB102_104 := n8_; have NB104_102 := n9_; clear n0_ n1_ n2_ n3_ n4_ n5_ n6_ n7_ n8_ n9_; clear hb hbox hg; have hnb31 := NB104_101.out; have hnc31 := NB101_104.out; have hnb32 := NB104_102.out; have hnc32 := NB102_104.out; have hcz33_0 : w30.cell? ⟨gb104, 0, none⟩ = some (.int .i64 0) := (blk_cell BK104.out 0).trans rfl; have hcz33_1 : w30.cell? ⟨gb104, 1, none⟩ = some (.int .i64 0) := (blk_cell BK104.out 1).trans rfl; have hcz33_2 : w30.cell? ⟨gb104, 2, none⟩ = some (.int .i64 0) := (blk_cell BK104.out 2).trans rfl; have hcz33_3 : w30.cell? ⟨gb104, 3, none⟩ = some (.int .i64 0) := (blk_cell BK104.out 3).trans rfl; have hcz33_4 : w30.cell? ⟨gb104, 4, none⟩ = some (.int .i64 0) := (blk_cell BK104.out 4).trans rfl; have hcz33_5 : w30.cell? ⟨gb104, 5, none⟩ = some (.int .i64 0) := (blk_cell BK104.out 5).trans rfl; have hcz33_6 : w30.cell? ⟨gb104, 6, none⟩ = some (.int .i64 0) := (blk_cell BK104.out 6).trans rfl; have hcz33_7 : w30.cell? ⟨gb104, 7, none⟩ = some (.int .i64 0) := (blk_cell BK104.out 7).trans rfl; have hcz33_8 : w30.cell? ⟨gb104, 8, none⟩ = some (.int .i64 0) := (blk_cell BK104.out 8).trans rfl; have hcz33_9 : w30.cell? ⟨gb104, 9, none⟩ = some (.int .i64 0) := (blk_cell BK104.out 9).trans rfl; have hcz33_10 : w30.cell? ⟨gb104, 10, none⟩ = some (.int .i64 0) := (blk_cell BK104.out 10).trans rfl; have hfz33_0 := blk_frozen BK104.out 0; have hfz33_1 := blk_frozen BK104.out 1; have hfz33_2 := blk_frozen BK104.out 2; have hfz33_3 := blk_frozen BK104.out 3; have hfz33_4 := blk_frozen BK104.out 4; have hfz33_5 := blk_frozen BK104.out 5; have hfz33_6 := blk_frozen BK104.out 6; have hfz33_7 := blk_frozen BK104.out 7; have hfz33_8 := blk_frozen BK104.out 8; have hfz33_9 := blk_frozen BK104.out 9; have hfz33_10 := blk_frozen BK104.out 10) | ((with_reducible refine gate_callee (f := 58) rfl ?_); refine goesL_ (some 38) rfl rfl Try.func58 (by kernel_rfl) rfl #[.agg #[.int .i64 ((rd_T46 l0_1 x32_2).f0.f0), .int .i64 ((rd_T46 l0_1 x32_2).f0.f1), .int .i64 ((rd_T46 l0_1 x32_2).f0.f2), .int .i64 ((rd_T46 l0_1 x32_2).f0.f3), .int .i64 ((rd_T46 l0_1 x32_2).f0.f4), .int .i64 ((rd_T46 l0_1 x32_2).f0.f5), .int .i64 ((rd_T46 l0_1 x32_2).f0.f6), .int .i64 ((rd_T46 l0_1 x32_2).f0.f7), .int .i64 ((rd_T46 l0_1 x32_2).f0.f8)]] rfl bE ?_; (with_reducible refine (impl_IsTable.calls ((rd_T46 l0_1 x32_2).f0.f0) ((rd_T46 l0_1 x32_2).f0.f1) ((rd_T46 l0_1 x32_2).f0.f2) ((rd_T46 l0_1 x32_2).f0.f3) ((rd_T46 l0_1 x32_2).f0.f4) ((rd_T46 l0_1 x32_2).f0.f5) ((rd_T46 l0_1 x32_2).f0.f6) ((rd_T46 l0_1 x32_2).f0.f7) ((rd_T46 l0_1 x32_2).f0.f8) true _ A20.out).mono ?_); rintro e w34 ⟨rfl, hb⟩; refine ⟨_, rfl, ?_⟩; have n0_ := am (blk_below (g := gb101) (o := .cells #[.int .i64 a0_0, .slice (some ad103) l0_1.length c0_1, .slice A0_2 l0_2.length c0_2] 35 (0, 0)) (by (with_reducible repeat (first | refine blk_drewN ?_ _ | refine blk_drew ?_ | refine blk_alloc ?_ _)); refine blk_far ?_ NB101_104.out _; (with_reducible repeat (first | refine blk_drewN ?_ _ | refine blk_drew ?_ | refine blk_alloc ?_ _)); refine blk_far ?_ NB101_104.out _; (with_reducible repeat (first | refine blk_drewN ?_ _ | refine blk_drew ?_ | refine blk_alloc ?_ _)); refine blk_far ?_ NB101_104.out _; (with_reducible repeat (first | refine blk_drewN ?_ _ | refine blk_drew ?_ | refine blk_alloc ?_ _)); refine blk_far ?_ NB101_104.out _; (with_reducible repeat (first | refine blk_drewN ?_ _ | refine blk_drew ?_ | refine blk_alloc ?_ _)); refine blk_far ?_ NB101_104.out _; (with_reducible repeat (first | refine blk_drewN ?_ _ | refine blk_drew ?_ | refine blk_alloc ?_ _)); refine blk_far ?_ NB101_104.out _; (with_reducible repeat (first | refine blk_drewN ?_ _ | refine blk_drew ?_ | refine blk_alloc ?_ _)); refine blk_far ?_ NB101_104.out _; (with_reducible repeat (first | refine blk_drewN ?_ _ | refine blk_drew ?_ | refine blk_alloc ?_ _)); refine blk_far ?_ NB101_104.out _; (with_reducible repeat (first | refine blk_drewN ?_ _ | refine blk_drew ?_ | refine blk_alloc ?_ _)); refine blk_far ?_ NB101_104.out _; (with_reducible repeat (first | refine blk_drewN ?_ _ | refine blk_drew ?_ | refine blk_alloc ?_ _)); refine blk_far ?_ NB101_104.out _; (with_reducible repeat (first | refine blk_drewN ?_ _ | refine blk_drew ?_ | refine blk_alloc ?_ _)); refine blk_far ?_ NB101_104.out _; (with_reducible repeat (first | refine blk_drewN ?_ _ | refine blk_drew ?_ | refine blk_alloc ?_ _)); exact BK101.out) hb); have n1_ := am (blk_below (g := gb102) (o := .cells #[.int .i64 x103000_2] 3 (0, 0)) (by (with_reducible repeat (first | refine blk_drewN ?_ _ | refine blk_drew ?_ | refine blk_alloc ?_ _)); refine blk_far ?_ NB102_104.out _; (with_reducible repeat (first | refine blk_drewN ?_ _ | refine blk_drew ?_ | refine blk_alloc ?_ _)); refine blk_far ?_ NB102_104.out _; (with_reducible repeat (first | refine blk_drewN ?_ _ | refine blk_drew ?_ | refine blk_alloc ?_ _)); refine blk_far ?_ NB102_104.out _; (with_reducible repeat (first | refine blk_drewN ?_ _ | refine blk_drew ?_ | refine blk_alloc ?_ _)); refine blk_far ?_ NB102_104.out _; (with_reducible repeat (first | refine blk_drewN ?_ _ | refine blk_drew ?_ | refine blk_alloc ?_ _)); refine blk_far ?_ NB102_104.out _; (with_reducible repeat (first | refine blk_drewN ?_ _ | refine blk_drew ?_ | refine blk_alloc ?_ _)); refine blk_far ?_ NB102_104.out _; (with_reducible repeat (first | refine blk_drewN ?_ _ | refine blk_drew ?_ | refine blk_alloc ?_ _)); refine blk_far ?_ NB102_104.out _; (with_reducible repeat (first | refine blk_drewN ?_ _ | refine blk_drew ?_ | refine blk_alloc ?_ _)); refine blk_far ?_ NB102_104.out _; (with_reducible repeat (first | refine blk_drewN ?_ _ | refine blk_drew ?_ | refine blk_alloc ?_ _)); refine blk_far ?_ NB102_104.out _; (with_reducible repeat (first | refine blk_drewN ?_ _ | refine blk_drew ?_ | refine blk_alloc ?_ _)); refine blk_far ?_ NB102_104.out _; (with_reducible repeat (first | refine blk_drewN ?_ _ | refine blk_drew ?_ | refine blk_alloc ?_ _)); refine blk_far ?_ NB102_104.out _; (with_reducible repeat (first | refine blk_drewN ?_ _ | refine blk_drew ?_ | refine blk_alloc ?_ _)); exact BK102.out) hb); have n2_ := am (blk_below (g := gb104) (o := .cells #[.int .i64 ((rd_T46 l0_1 x32_2).f0.f0), .int .i64 ((rd_T46 l0_1 x32_2).f0.f1), .int .i64 ((rd_T46 l0_1 x32_2).f0.f2), .int .i64 ((rd_T46 l0_1 x32_2).f0.f3), .int .i64 ((rd_T46 l0_1 x32_2).f0.f4), .int .i64 ((rd_T46 l0_1 x32_2).f0.f5), .int .i64 ((rd_T46 l0_1 x32_2).f0.f6), .int .i64 ((rd_T46 l0_1 x32_2).f0.f7), .int .i64 ((rd_T46 l0_1 x32_2).f0.f8), .int .i64 ((rd_T46 l0_1 x32_2).f1), .int .i64 ((rd_T46 l0_1 x32_2).f2)] 46 (0, 0)) (by (with_reducible repeat (first | refine blk_drewN ?_ _ | refine blk_drew ?_ | refine blk_alloc ?_ _)); refine blk_put (cs := #[.int .i64 ((rd_T46 l0_1 x32_2).f0.f0), .int .i64 ((rd_T46 l0_1 x32_2).f0.f1), .int .i64 ((rd_T46 l0_1 x32_2).f0.f2), .int .i64 ((rd_T46 l0_1 x32_2).f0.f3), .int .i64 ((rd_T46 l0_1 x32_2).f0.f4), .int .i64 ((rd_T46 l0_1 x32_2).f0.f5), .int .i64 ((rd_T46 l0_1 x32_2).f0.f6), .int .i64 ((rd_T46 l0_1 x32_2).f0.f7), .int .i64 ((rd_T46 l0_1 x32_2).f0.f8), .int .i64 ((rd_T46 l0_1 x32_2).f1), .int .i64 0]) ?_ 10 _ rfl; (with_reducible repeat (first | refine blk_drewN ?_ _ | refine blk_drew ?_ | refine blk_alloc ?_ _)); refine blk_put (cs := #[.int .i64 ((rd_T46 l0_1 x32_2).f0.f0), .int .i64 ((rd_T46 l0_1 x32_2).f0.f1), .int .i64 ((rd_T46 l0_1 x32_2).f0.f2), .int .i64 ((rd_T46 l0_1 x32_2).f0.f3), .int .i64 ((rd_T46 l0_1 x32_2).f0.f4), .int .i64 ((rd_T46 l0_1 x32_2).f0.f5), .int .i64 ((rd_T46 l0_1 x32_2).f0.f6), .int .i64 ((rd_T46 l0_1 x32_2).f0.f7), .int .i64 ((rd_T46 l0_1 x32_2).f0.f8), .int .i64 0, .int .i64 0]) ?_ 9 _ rfl; (with_reducible repeat (first | refine blk_drewN ?_ _ | refine blk_drew ?_ | refine blk_alloc ?_ _)); refine blk_put (cs := #[.int .i64 ((rd_T46 l0_1 x32_2).f0.f0), .int .i64 ((rd_T46 l0_1 x32_2).f0.f1), .int .i64 ((rd_T46 l0_1 x32_2).f0.f2), .int .i64 ((rd_T46 l0_1 x32_2).f0.f3), .int .i64 ((rd_T46 l0_1 x32_2).f0.f4), .int .i64 ((rd_T46 l0_1 x32_2).f0.f5), .int .i64 ((rd_T46 l0_1 x32_2).f0.f6), .int .i64 ((rd_T46 l0_1 x32_2).f0.f7), .int .i64 0, .int .i64 0, .int .i64 0]) ?_ 8 _ rfl; (with_reducible repeat (first | refine blk_drewN ?_ _ | refine blk_drew ?_ | refine blk_alloc ?_ _)); refine blk_put (cs := #[.int .i64 ((rd_T46 l0_1 x32_2).f0.f0), .int .i64 ((rd_T46 l0_1 x32_2).f0.f1), .int .i64 ((rd_T46 l0_1 x32_2).f0.f2), .int .i64 ((rd_T46 l0_1 x32_2).f0.f3), .int .i64 ((rd_T46 l0_1 x32_2).f0.f4), .int .i64 ((rd_T46 l0_1 x32_2).f0.f5), .int .i64 ((rd_T46 l0_1 x32_2).f0.f6), .int .i64 0, .int .i64 0, .int .i64 0, .int .i64 0]) ?_ 7 _ rfl; (with_reducible repeat (first | refine blk_drewN ?_ _ | refine blk_drew ?_ | refine blk_alloc ?_ _)); refine blk_put (cs := #[.int .i64 ((rd_T46 l0_1 x32_2).f0.f0), .int .i64 ((rd_T46 l0_1 x32_2).f0.f1), .int .i64 ((rd_T46 l0_1 x32_2).f0.f2), .int .i64 ((rd_T46 l0_1 x32_2).f0.f3), .int .i64 ((rd_T46 l0_1 x32_2).f0.f4), .int .i64 ((rd_T46 l0_1 x32_2).f0.f5), .int .i64 0, .int .i64 0, .int .i64 0, .int .i64 0, .int .i64 0]) ?_ 6 _ rfl; (with_reducible repeat (first | refine blk_drewN ?_ _ | refine blk_drew ?_ | refine blk_alloc ?_ _)); refine blk_put (cs := #[.int .i64 ((rd_T46 l0_1 x32_2).f0.f0), .int .i64 ((rd_T46 l0_1 x32_2).f0.f1), .int .i64 ((rd_T46 l0_1 x32_2).f0.f2), .int .i64 ((rd_T46 l0_1 x32_2).f0.f3), .int .i64 ((rd_T46 l0_1 x32_2).f0.f4), .int .i64 0, .int .i64 0, .int .i64 0, .int .i64 0, .int .i64 0, .int .i64 0]) ?_ 5 _ rfl; (with_reducible repeat (first | refine blk_drewN ?_ _ | refine blk_drew ?_ | refine blk_alloc ?_ _)); refine blk_put (cs := #[.int .i64 ((rd_T46 l0_1 x32_2).f0.f0), .int .i64 ((rd_T46 l0_1 x32_2).f0.f1), .int .i64 ((rd_T46 l0_1 x32_2).f0.f2), .int .i64 ((rd_T46 l0_1 x32_2).f0.f3), .int .i64 0, .int .i64 0, .int .i64 0, .int .i64 0, .int .i64 0, .int .i64 0, .int .i64 0]) ?_ 4 _ rfl; (with_reducible repeat (first | refine blk_drewN ?_ _ | refine blk_drew ?_ | refine blk_alloc ?_ _)); refine blk_put (cs := #[.int .i64 ((rd_T46 l0_1 x32_2).f0.f0), .int .i64 ((rd_T46 l0_1 x32_2).f0.f1), .int .i64 ((rd_T46 l0_1 x32_2).f0.f2), .int .i64 0, .int .i64 0, .int .i64 0, .int .i64 0, .int .i64 0, .int .i64 0, .int .i64 0, .int .i64 0]) ?_ 3 _ rfl; (with_reducible repeat (first | refine blk_drewN ?_ _ | refine blk_drew ?_ | refine blk_alloc ?_ _)); refine blk_put (cs := #[.int .i64 ((rd_T46 l0_1 x32_2).f0.f0), .int .i64 ((rd_T46 l0_1 x32_2).f0.f1), .int .i64 0, .int .i64 0, .int .i64 0, .int .i64 0, .int .i64 0, .int .i64 0, .int .i64 0, .int .i64 0, .int .i64 0]) ?_ 2 _ rfl; (with_reducible repeat (first | refine blk_drewN ?_ _ | refine blk_drew ?_ | refine blk_alloc ?_ _)); refine blk_put (cs := #[.int .i64 ((rd_T46 l0_1 x32_2).f0.f0), .int .i64 0, .int .i64 0, .int .i64 0, .int .i64 0, .int .i64 0, .int .i64 0, .int .i64 0, .int .i64 0, .int .i64 0, .int .i64 0]) ?_ 1 _ rfl; (with_reducible repeat (first | refine blk_drewN ?_ _ | refine blk_drew ?_ | refine blk_alloc ?_ _)); refine blk_put (cs := #[.int .i64 0, .int .i64 0, .int .i64 0, .int .i64 0, .int .i64 0, .int .i64 0, .int .i64 0, .int .i64 0, .int .i64 0, .int .i64 0, .int .i64 0]) ?_ 0 _ rfl; (with_reducible repeat (first | refine blk_drewN ?_ _ | refine blk_drew ?_ | refine blk_alloc ?_ _)); exact BK104.out) hb); have n3_ := am (below_step (bB HB.out) hb); clear BK101; clear BK102; clear BK104; clear HB; have BK101 := n0_; have BK102 := n1_; have BK104 := n2_; have HB := n3_; clear n0_ n1_ n2_ n3_; (try clear hb); (try clear hb2); (try clear hk); (try clear hi); have hcz35_0 : w34.cell? ⟨gb104, 0, none⟩ = some (.int .i64 ((rd_T46 l0_1 x32_2).f0.f0)) := (blk_cell BK104.out 0).trans rfl; have hcz35_1 : w34.cell? ⟨gb104, 1, none⟩ = some (.int .i64 ((rd_T46 l0_1 x32_2).f0.f1)) := (blk_cell BK104.out 1).trans rfl; have hcz35_2 : w34.cell? ⟨gb104, 2, none⟩ = some (.int .i64 ((rd_T46 l0_1 x32_2).f0.f2)) := (blk_cell BK104.out 2).trans rfl; have hcz35_3 : w34.cell? ⟨gb104, 3, none⟩ = some (.int .i64 ((rd_T46 l0_1 x32_2).f0.f3)) := (blk_cell BK104.out 3).trans rfl; have hcz35_4 : w34.cell? ⟨gb104, 4, none⟩ = some (.int .i64 ((rd_T46 l0_1 x32_2).f0.f4)) := (blk_cell BK104.out 4).trans rfl; have hcz35_5 : w34.cell? ⟨gb104, 5, none⟩ = some (.int .i64 ((rd_T46 l0_1 x32_2).f0.f5)) := (blk_cell BK104.out 5).trans rfl; have hcz35_6 : w34.cell? ⟨gb104, 6, none⟩ = some (.int .i64 ((rd_T46 l0_1 x32_2).f0.f6)) := (blk_cell BK104.out 6).trans rfl; have hcz35_7 : w34.cell? ⟨gb104, 7, none⟩ = some (.int .i64 ((rd_T46 l0_1 x32_2).f0.f7)) := (blk_cell BK104.out 7).trans rfl; have hcz35_8 : w34.cell? ⟨gb104, 8, none⟩ = some (.int .i64 ((rd_T46 l0_1 x32_2).f0.f8)) := (blk_cell BK104.out 8).trans rfl; have hcz35_9 : w34.cell? ⟨gb104, 9, none⟩ = some (.int .i64 ((rd_T46 l0_1 x32_2).f1)) := (blk_cell BK104.out 9).trans rfl; have hcz35_10 : w34.cell? ⟨gb104, 10, none⟩ = some (.int .i64 ((rd_T46 l0_1 x32_2).f2)) := (blk_cell BK104.out 10).trans rfl; have hfz35_0 := blk_frozen BK104.out 0; have hfz35_1 := blk_frozen BK104.out 1; have hfz35_2 := blk_frozen BK104.out 2; have hfz35_3 := blk_frozen BK104.out 3; have hfz35_4 := blk_frozen BK104.out 4; have hfz35_5 := blk_frozen BK104.out 5; have hfz35_6 := blk_frozen BK104.out 6; have hfz35_7 := blk_frozen BK104.out 7; have hfz35_8 := blk_frozen BK104.out 8; have hfz35_9 := blk_frozen BK104.out 9; have hfz35_10 := blk_frozen BK104.out 10; have hnb36 := NB102_101.out; have hnc36 := NB101_102.out; have hcz37_0 : w34.cell? ⟨gb102, 0, none⟩ = some (.int .i64 x103000_2) := (blk_cell BK102.out 0).trans rfl; have hfz37_0 := blk_frozen BK102.out 0))
            go_ret
            exact ⟨by first | rfl | (simp [errW_none, errW_some] <;> rfl) | (simp [*, errW_none, errW_some] <;> rfl), bB HB.out⟩
           ·rw [if_neg c29] at H
            have c29b0 : decide (x103000_2 ≤ ((rd_T46 l0_1 x32_2).f1)) = false := decide_eq_false c29
            clear c29
            by_cases c38 : ((rd_T46 l0_1 x32_2).f2) < 0
            ·rw [if_pos c38] at H
             have c38b0 : decide (((rd_T46 l0_1 x32_2).f2) < 0) = true := decide_eq_true c38
             clear c38
             obtain rfl := Option.some.inj H
             have p103 : 0 ≤ (x32_2 : Int) := of_decide_eq_true (by first | with_reducible assumption | assumption)
             have q103 : x32_2 < (l0_1.length : Int) := of_decide_eq_true (by first | with_reducible assumption | assumption)
             obtain ⟨ad103, e103, hx103_0, hx103_1, hx103_2, hx103_3, hx103_4, hx103_5, hx103_6, hx103_7, hx103_8, hx103_9, hx103_10⟩ := at_T46 HR0_1.out x32_2 p103 q103
             cases e103
             replace hx103_0 := (HB.out.cell (World.block_lt_of_cell? w _ hx103_0)).trans hx103_0
             replace hx103_1 := (HB.out.cell (World.block_lt_of_cell? w _ hx103_1)).trans hx103_1
             replace hx103_2 := (HB.out.cell (World.block_lt_of_cell? w _ hx103_2)).trans hx103_2
             replace hx103_3 := (HB.out.cell (World.block_lt_of_cell? w _ hx103_3)).trans hx103_3
             replace hx103_4 := (HB.out.cell (World.block_lt_of_cell? w _ hx103_4)).trans hx103_4
             replace hx103_5 := (HB.out.cell (World.block_lt_of_cell? w _ hx103_5)).trans hx103_5
             replace hx103_6 := (HB.out.cell (World.block_lt_of_cell? w _ hx103_6)).trans hx103_6
             replace hx103_7 := (HB.out.cell (World.block_lt_of_cell? w _ hx103_7)).trans hx103_7
             replace hx103_8 := (HB.out.cell (World.block_lt_of_cell? w _ hx103_8)).trans hx103_8
             replace hx103_9 := (HB.out.cell (World.block_lt_of_cell? w _ hx103_9)).trans hx103_9
             replace hx103_10 := (HB.out.cell (World.block_lt_of_cell? w _ hx103_10)).trans hx103_10
             replace p103 := eq_true p103
             replace q103 := eq_true q103
             go_wp2_with (first | ((with_reducible refine gate_dst (N := 5) rfl ?_); (try (refine gate_guard (by rfl) ?_; dsimp only)); refine box_event ?hg (N := 5) ?hd (cs := #[.int .i64 0, .int .i64 0, .int .i64 0, .int .i64 0, .int .i64 0, .int .i64 0, .int .i64 0, .int .i64 0, .int .i64 0, .int .i64 0, .int .i64 0]) (t := 46) ?hr ?_; (case hd => rfl); (case hg => rfl); (case hr => first | (go_simp; done) | (go_simp; rfl)); intro gb104 hg w39 hbox hb; have n0_ := am (blk_below (bA BK101.out) hb); have n1_ := am (blk_below (bA BK102.out) hb); have n2_ := am (below_step (bB HB.out) hb); have n3_ := am (hbox); have n4_ := am ((by rw [hg]; exact (below_size (bB HB.out)) : w.heap.size ≤ gb104)); have n5_ := am ((by rw [hg]; exact (below_size (bB HB.out)) : w.heap.size ≤ gb104)); have n6_ := am ((by rw [hg]; exact Nat.ne_of_lt (blk_lt (g := gb101) (o := .cells #[.int .i64 a0_0, .slice (some ad103) l0_1.length c0_1, .slice A0_2 l0_2.length c0_2] 35 (0, 0)) (bA BK101.out)) : gb101 ≠ gb104)); have n7_ := am ((by rw [hg]; exact Nat.ne_of_gt (blk_lt (g := gb101) (o := .cells #[.int .i64 a0_0, .slice (some ad103) l0_1.length c0_1, .slice A0_2 l0_2.length c0_2] 35 (0, 0)) (bA BK101.out)) : gb104 ≠ gb101)); have n8_ := am ((by rw [hg]; exact Nat.ne_of_lt (blk_lt (g := gb102) (o := .cells #[.int .i64 x103000_2] 3 (0, 0)) (bA BK102.out)) : gb102 ≠ gb104)); have n9_ := am ((by rw [hg]; exact Nat.ne_of_gt (blk_lt (g := gb102) (o := .cells #[.int .i64 x103000_2] 3 (0, 0)) (bA BK102.out)) : gb104 ≠ gb102)); clear BK101; clear BK102; clear HB; have BK101 := n0_; have BK102 := n1_; have HB := n2_; have BK104 := n3_; have GW104 := n4_; have GE104 := n5_; have NB101_104 := n6_; have NB104_101 := n7_; have NB102_104 := n8_; have NB104_102 := n9_; clear n0_ n1_ n2_ n3_ n4_ n5_ n6_ n7_ n8_ n9_; clear hb hbox hg; have hnb40 := NB104_101.out; have hnc40 := NB101_104.out; have hnb41 := NB104_102.out; have hnc41 := NB102_104.out; have hcz42_0 : w39.cell? ⟨gb104, 0, none⟩ = some (.int .i64 0) := (blk_cell BK104.out 0).trans rfl; have hcz42_1 : w39.cell? ⟨gb104, 1, none⟩ = some (.int .i64 0) := (blk_cell BK104.out 1).trans rfl; have hcz42_2 : w39.cell? ⟨gb104, 2, none⟩ = some (.int .i64 0) := (blk_cell BK104.out 2).trans rfl; have hcz42_3 : w39.cell? ⟨gb104, 3, none⟩ = some (.int .i64 0) := (blk_cell BK104.out 3).trans rfl; have hcz42_4 : w39.cell? ⟨gb104, 4, none⟩ = some (.int .i64 0) := (blk_cell BK104.out 4).trans rfl; have hcz42_5 : w39.cell? ⟨gb104, 5, none⟩ = some (.int .i64 0) := (blk_cell BK104.out 5).trans rfl; have hcz42_6 : w39.cell? ⟨gb104, 6, none⟩ = some (.int .i64 0) := (blk_cell BK104.out 6).trans rfl; have hcz42_7 : w39.cell? ⟨gb104, 7, none⟩ = some (.int .i64 0) := (blk_cell BK104.out 7).trans rfl; have hcz42_8 : w39.cell? ⟨gb104, 8, none⟩ = some (.int .i64 0) := (blk_cell BK104.out 8).trans rfl; have hcz42_9 : w39.cell? ⟨gb104, 9, none⟩ = some (.int .i64 0) := (blk_cell BK104.out 9).trans rfl; have hcz42_10 : w39.cell? ⟨gb104, 10, none⟩ = some (.int .i64 0) := (blk_cell BK104.out 10).trans rfl; have hfz42_0 := blk_frozen BK104.out 0; have hfz42_1 := blk_frozen BK104.out 1; have hfz42_2 := blk_frozen BK104.out 2; have hfz42_3 := blk_frozen BK104.out 3; have hfz42_4 := blk_frozen BK104.out 4; have hfz42_5 := blk_frozen BK104.out 5; have hfz42_6 := blk_frozen BK104.out 6; have hfz42_7 := blk_frozen BK104.out 7; have hfz42_8 := blk_frozen BK104.out 8; have hfz42_9 := blk_frozen BK104.out 9; have hfz42_10 := blk_frozen BK104.out 10) | ((with_reducible refine gate_callee (f := 58) rfl ?_); refine goesL_ (some 38) rfl rfl Try.func58 (by kernel_rfl) rfl #[.agg #[.int .i64 ((rd_T46 l0_1 x32_2).f0.f0), .int .i64 ((rd_T46 l0_1 x32_2).f0.f1), .int .i64 ((rd_T46 l0_1 x32_2).f0.f2), .int .i64 ((rd_T46 l0_1 x32_2).f0.f3), .int .i64 ((rd_T46 l0_1 x32_2).f0.f4), .int .i64 ((rd_T46 l0_1 x32_2).f0.f5), .int .i64 ((rd_T46 l0_1 x32_2).f0.f6), .int .i64 ((rd_T46 l0_1 x32_2).f0.f7), .int .i64 ((rd_T46 l0_1 x32_2).f0.f8)]] rfl bE ?_; (with_reducible refine (impl_IsTable.calls ((rd_T46 l0_1 x32_2).f0.f0) ((rd_T46 l0_1 x32_2).f0.f1) ((rd_T46 l0_1 x32_2).f0.f2) ((rd_T46 l0_1 x32_2).f0.f3) ((rd_T46 l0_1 x32_2).f0.f4) ((rd_T46 l0_1 x32_2).f0.f5) ((rd_T46 l0_1 x32_2).f0.f6) ((rd_T46 l0_1 x32_2).f0.f7) ((rd_T46 l0_1 x32_2).f0.f8) true _ A20.out).mono ?_); rintro e w43 ⟨rfl, hb⟩; refine ⟨_, rfl, ?_⟩; have n0_ := am (blk_below (g := gb101) (o := .cells #[.int .i64 a0_0, .slice (some ad103) l0_1.length c0_1, .slice A0_2 l0_2.length c0_2] 35 (0, 0)) (by (with_reducible repeat (first | refine blk_drewN ?_ _ | refine blk_drew ?_ | refine blk_alloc ?_ _)); refine blk_far ?_ NB101_104.out _; (with_reducible repeat (first | refine blk_drewN ?_ _ | refine blk_drew ?_ | refine blk_alloc ?_ _)); refine blk_far ?_ NB101_104.out _; (with_reducible repeat (first | refine blk_drewN ?_ _ | refine blk_drew ?_ | refine blk_alloc ?_ _)); refine blk_far ?_ NB101_104.out _; (with_reducible repeat (first | refine blk_drewN ?_ _ | refine blk_drew ?_ | refine blk_alloc ?_ _)); refine blk_far ?_ NB101_104.out _; (with_reducible repeat (first | refine blk_drewN ?_ _ | refine blk_drew ?_ | refine blk_alloc ?_ _)); refine blk_far ?_ NB101_104.out _; (with_reducible repeat (first | refine blk_drewN ?_ _ | refine blk_drew ?_ | refine blk_alloc ?_ _)); refine blk_far ?_ NB101_104.out _; (with_reducible repeat (first | refine blk_drewN ?_ _ | refine blk_drew ?_ | refine blk_alloc ?_ _)); refine blk_far ?_ NB101_104.out _; (with_reducible repeat (first | refine blk_drewN ?_ _ | refine blk_drew ?_ | refine blk_alloc ?_ _)); refine blk_far ?_ NB101_104.out _; (with_reducible repeat (first | refine blk_drewN ?_ _ | refine blk_drew ?_ | refine blk_alloc ?_ _)); refine blk_far ?_ NB101_104.out _; (with_reducible repeat (first | refine blk_drewN ?_ _ | refine blk_drew ?_ | refine blk_alloc ?_ _)); refine blk_far ?_ NB101_104.out _; (with_reducible repeat (first | refine blk_drewN ?_ _ | refine blk_drew ?_ | refine blk_alloc ?_ _)); refine blk_far ?_ NB101_104.out _; (with_reducible repeat (first | refine blk_drewN ?_ _ | refine blk_drew ?_ | refine blk_alloc ?_ _)); exact BK101.out) hb); have n1_ := am (blk_below (g := gb102) (o := .cells #[.int .i64 x103000_2] 3 (0, 0)) (by (with_reducible repeat (first | refine blk_drewN ?_ _ | refine blk_drew ?_ | refine blk_alloc ?_ _)); refine blk_far ?_ NB102_104.out _; (with_reducible repeat (first | refine blk_drewN ?_ _ | refine blk_drew ?_ | refine blk_alloc ?_ _)); refine blk_far ?_ NB102_104.out _; (with_reducible repeat (first | refine blk_drewN ?_ _ | refine blk_drew ?_ | refine blk_alloc ?_ _)); refine blk_far ?_ NB102_104.out _; (with_reducible repeat (first | refine blk_drewN ?_ _ | refine blk_drew ?_ | refine blk_alloc ?_ _)); refine blk_far ?_ NB102_104.out _; (with_reducible repeat (first | refine blk_drewN ?_ _ | refine blk_drew ?_ | refine blk_alloc ?_ _)); refine blk_far ?_ NB102_104.out _; (with_reducible repeat (first | refine blk_drewN ?_ _ | refine blk_drew ?_ | refine blk_alloc ?_ _)); refine blk_far ?_ NB102_104.out _; (with_reducible repeat (first | refine blk_drewN ?_ _ | refine blk_drew ?_ | refine blk_alloc ?_ _)); refine blk_far ?_ NB102_104.out _; (with_reducible repeat (first | refine blk_drewN ?_ _ | refine blk_drew ?_ | refine blk_alloc ?_ _)); refine blk_far ?_ NB102_104.out _; (with_reducible repeat (first | refine blk_drewN ?_ _ | refine blk_drew ?_ | refine blk_alloc ?_ _)); refine blk_far ?_ NB102_104.out _; (with_reducible repeat (first | refine blk_drewN ?_ _ | refine blk_drew ?_ | refine blk_alloc ?_ _)); refine blk_far ?_ NB102_104.out _; (with_reducible repeat (first | refine blk_drewN ?_ _ | refine blk_drew ?_ | refine blk_alloc ?_ _)); refine blk_far ?_ NB102_104.out _; (with_reducible repeat (first | refine blk_drewN ?_ _ | refine blk_drew ?_ | refine blk_alloc ?_ _)); exact BK102.out) hb); have n2_ := am (blk_below (g := gb104) (o := .cells #[.int .i64 ((rd_T46 l0_1 x32_2).f0.f0), .int .i64 ((rd_T46 l0_1 x32_2).f0.f1), .int .i64 ((rd_T46 l0_1 x32_2).f0.f2), .int .i64 ((rd_T46 l0_1 x32_2).f0.f3), .int .i64 ((rd_T46 l0_1 x32_2).f0.f4), .int .i64 ((rd_T46 l0_1 x32_2).f0.f5), .int .i64 ((rd_T46 l0_1 x32_2).f0.f6), .int .i64 ((rd_T46 l0_1 x32_2).f0.f7), .int .i64 ((rd_T46 l0_1 x32_2).f0.f8), .int .i64 ((rd_T46 l0_1 x32_2).f1), .int .i64 ((rd_T46 l0_1 x32_2).f2)] 46 (0, 0)) (by (with_reducible repeat (first | refine blk_drewN ?_ _ | refine blk_drew ?_ | refine blk_alloc ?_ _)); refine blk_put (cs := #[.int .i64 ((rd_T46 l0_1 x32_2).f0.f0), .int .i64 ((rd_T46 l0_1 x32_2).f0.f1), .int .i64 ((rd_T46 l0_1 x32_2).f0.f2), .int .i64 ((rd_T46 l0_1 x32_2).f0.f3), .int .i64 ((rd_T46 l0_1 x32_2).f0.f4), .int .i64 ((rd_T46 l0_1 x32_2).f0.f5), .int .i64 ((rd_T46 l0_1 x32_2).f0.f6), .int .i64 ((rd_T46 l0_1 x32_2).f0.f7), .int .i64 ((rd_T46 l0_1 x32_2).f0.f8), .int .i64 ((rd_T46 l0_1 x32_2).f1), .int .i64 0]) ?_ 10 _ rfl; (with_reducible repeat (first | refine blk_drewN ?_ _ | refine blk_drew ?_ | refine blk_alloc ?_ _)); refine blk_put (cs := #[.int .i64 ((rd_T46 l0_1 x32_2).f0.f0), .int .i64 ((rd_T46 l0_1 x32_2).f0.f1), .int .i64 ((rd_T46 l0_1 x32_2).f0.f2), .int .i64 ((rd_T46 l0_1 x32_2).f0.f3), .int .i64 ((rd_T46 l0_1 x32_2).f0.f4), .int .i64 ((rd_T46 l0_1 x32_2).f0.f5), .int .i64 ((rd_T46 l0_1 x32_2).f0.f6), .int .i64 ((rd_T46 l0_1 x32_2).f0.f7), .int .i64 ((rd_T46 l0_1 x32_2).f0.f8), .int .i64 0, .int .i64 0]) ?_ 9 _ rfl; (with_reducible repeat (first | refine blk_drewN ?_ _ | refine blk_drew ?_ | refine blk_alloc ?_ _)); refine blk_put (cs := #[.int .i64 ((rd_T46 l0_1 x32_2).f0.f0), .int .i64 ((rd_T46 l0_1 x32_2).f0.f1), .int .i64 ((rd_T46 l0_1 x32_2).f0.f2), .int .i64 ((rd_T46 l0_1 x32_2).f0.f3), .int .i64 ((rd_T46 l0_1 x32_2).f0.f4), .int .i64 ((rd_T46 l0_1 x32_2).f0.f5), .int .i64 ((rd_T46 l0_1 x32_2).f0.f6), .int .i64 ((rd_T46 l0_1 x32_2).f0.f7), .int .i64 0, .int .i64 0, .int .i64 0]) ?_ 8 _ rfl; (with_reducible repeat (first | refine blk_drewN ?_ _ | refine blk_drew ?_ | refine blk_alloc ?_ _)); refine blk_put (cs := #[.int .i64 ((rd_T46 l0_1 x32_2).f0.f0), .int .i64 ((rd_T46 l0_1 x32_2).f0.f1), .int .i64 ((rd_T46 l0_1 x32_2).f0.f2), .int .i64 ((rd_T46 l0_1 x32_2).f0.f3), .int .i64 ((rd_T46 l0_1 x32_2).f0.f4), .int .i64 ((rd_T46 l0_1 x32_2).f0.f5), .int .i64 ((rd_T46 l0_1 x32_2).f0.f6), .int .i64 0, .int .i64 0, .int .i64 0, .int .i64 0]) ?_ 7 _ rfl; (with_reducible repeat (first | refine blk_drewN ?_ _ | refine blk_drew ?_ | refine blk_alloc ?_ _)); refine blk_put (cs := #[.int .i64 ((rd_T46 l0_1 x32_2).f0.f0), .int .i64 ((rd_T46 l0_1 x32_2).f0.f1), .int .i64 ((rd_T46 l0_1 x32_2).f0.f2), .int .i64 ((rd_T46 l0_1 x32_2).f0.f3), .int .i64 ((rd_T46 l0_1 x32_2).f0.f4), .int .i64 ((rd_T46 l0_1 x32_2).f0.f5), .int .i64 0, .int .i64 0, .int .i64 0, .int .i64 0, .int .i64 0]) ?_ 6 _ rfl; (with_reducible repeat (first | refine blk_drewN ?_ _ | refine blk_drew ?_ | refine blk_alloc ?_ _)); refine blk_put (cs := #[.int .i64 ((rd_T46 l0_1 x32_2).f0.f0), .int .i64 ((rd_T46 l0_1 x32_2).f0.f1), .int .i64 ((rd_T46 l0_1 x32_2).f0.f2), .int .i64 ((rd_T46 l0_1 x32_2).f0.f3), .int .i64 ((rd_T46 l0_1 x32_2).f0.f4), .int .i64 0, .int .i64 0, .int .i64 0, .int .i64 0, .int .i64 0, .int .i64 0]) ?_ 5 _ rfl; (with_reducible repeat (first | refine blk_drewN ?_ _ | refine blk_drew ?_ | refine blk_alloc ?_ _)); refine blk_put (cs := #[.int .i64 ((rd_T46 l0_1 x32_2).f0.f0), .int .i64 ((rd_T46 l0_1 x32_2).f0.f1), .int .i64 ((rd_T46 l0_1 x32_2).f0.f2), .int .i64 ((rd_T46 l0_1 x32_2).f0.f3), .int .i64 0, .int .i64 0, .int .i64 0, .int .i64 0, .int .i64 0, .int .i64 0, .int .i64 0]) ?_ 4 _ rfl; (with_reducible repeat (first | refine blk_drewN ?_ _ | refine blk_drew ?_ | refine blk_alloc ?_ _)); refine blk_put (cs := #[.int .i64 ((rd_T46 l0_1 x32_2).f0.f0), .int .i64 ((rd_T46 l0_1 x32_2).f0.f1), .int .i64 ((rd_T46 l0_1 x32_2).f0.f2), .int .i64 0, .int .i64 0, .int .i64 0, .int .i64 0, .int .i64 0, .int .i64 0, .int .i64 0, .int .i64 0]) ?_ 3 _ rfl; (with_reducible repeat (first | refine blk_drewN ?_ _ | refine blk_drew ?_ | refine blk_alloc ?_ _)); refine blk_put (cs := #[.int .i64 ((rd_T46 l0_1 x32_2).f0.f0), .int .i64 ((rd_T46 l0_1 x32_2).f0.f1), .int .i64 0, .int .i64 0, .int .i64 0, .int .i64 0, .int .i64 0, .int .i64 0, .int .i64 0, .int .i64 0, .int .i64 0]) ?_ 2 _ rfl; (with_reducible repeat (first | refine blk_drewN ?_ _ | refine blk_drew ?_ | refine blk_alloc ?_ _)); refine blk_put (cs := #[.int .i64 ((rd_T46 l0_1 x32_2).f0.f0), .int .i64 0, .int .i64 0, .int .i64 0, .int .i64 0, .int .i64 0, .int .i64 0, .int .i64 0, .int .i64 0, .int .i64 0, .int .i64 0]) ?_ 1 _ rfl; (with_reducible repeat (first | refine blk_drewN ?_ _ | refine blk_drew ?_ | refine blk_alloc ?_ _)); refine blk_put (cs := #[.int .i64 0, .int .i64 0, .int .i64 0, .int .i64 0, .int .i64 0, .int .i64 0, .int .i64 0, .int .i64 0, .int .i64 0, .int .i64 0, .int .i64 0]) ?_ 0 _ rfl; (with_reducible repeat (first | refine blk_drewN ?_ _ | refine blk_drew ?_ | refine blk_alloc ?_ _)); exact BK104.out) hb); have n3_ := am (below_step (bB HB.out) hb); clear BK101; clear BK102; clear BK104; clear HB; have BK101 := n0_; have BK102 := n1_; have BK104 := n2_; have HB := n3_; clear n0_ n1_ n2_ n3_; (try clear hb); (try clear hb2); (try clear hk); (try clear hi); have hcz44_0 : w43.cell? ⟨gb104, 0, none⟩ = some (.int .i64 ((rd_T46 l0_1 x32_2).f0.f0)) := (blk_cell BK104.out 0).trans rfl; have hcz44_1 : w43.cell? ⟨gb104, 1, none⟩ = some (.int .i64 ((rd_T46 l0_1 x32_2).f0.f1)) := (blk_cell BK104.out 1).trans rfl; have hcz44_2 : w43.cell? ⟨gb104, 2, none⟩ = some (.int .i64 ((rd_T46 l0_1 x32_2).f0.f2)) := (blk_cell BK104.out 2).trans rfl; have hcz44_3 : w43.cell? ⟨gb104, 3, none⟩ = some (.int .i64 ((rd_T46 l0_1 x32_2).f0.f3)) := (blk_cell BK104.out 3).trans rfl; have hcz44_4 : w43.cell? ⟨gb104, 4, none⟩ = some (.int .i64 ((rd_T46 l0_1 x32_2).f0.f4)) := (blk_cell BK104.out 4).trans rfl; have hcz44_5 : w43.cell? ⟨gb104, 5, none⟩ = some (.int .i64 ((rd_T46 l0_1 x32_2).f0.f5)) := (blk_cell BK104.out 5).trans rfl; have hcz44_6 : w43.cell? ⟨gb104, 6, none⟩ = some (.int .i64 ((rd_T46 l0_1 x32_2).f0.f6)) := (blk_cell BK104.out 6).trans rfl; have hcz44_7 : w43.cell? ⟨gb104, 7, none⟩ = some (.int .i64 ((rd_T46 l0_1 x32_2).f0.f7)) := (blk_cell BK104.out 7).trans rfl; have hcz44_8 : w43.cell? ⟨gb104, 8, none⟩ = some (.int .i64 ((rd_T46 l0_1 x32_2).f0.f8)) := (blk_cell BK104.out 8).trans rfl; have hcz44_9 : w43.cell? ⟨gb104, 9, none⟩ = some (.int .i64 ((rd_T46 l0_1 x32_2).f1)) := (blk_cell BK104.out 9).trans rfl; have hcz44_10 : w43.cell? ⟨gb104, 10, none⟩ = some (.int .i64 ((rd_T46 l0_1 x32_2).f2)) := (blk_cell BK104.out 10).trans rfl; have hfz44_0 := blk_frozen BK104.out 0; have hfz44_1 := blk_frozen BK104.out 1; have hfz44_2 := blk_frozen BK104.out 2; have hfz44_3 := blk_frozen BK104.out 3; have hfz44_4 := blk_frozen BK104.out 4; have hfz44_5 := blk_frozen BK104.out 5; have hfz44_6 := blk_frozen BK104.out 6; have hfz44_7 := blk_frozen BK104.out 7; have hfz44_8 := blk_frozen BK104.out 8; have hfz44_9 := blk_frozen BK104.out 9; have hfz44_10 := blk_frozen BK104.out 10; have hnb45 := NB102_101.out; have hnc45 := NB101_102.out; have hcz46_0 : w43.cell? ⟨gb102, 0, none⟩ = some (.int .i64 x103000_2) := (blk_cell BK102.out 0).trans rfl; have hfz46_0 := blk_frozen BK102.out 0))
             go_ret
             exact ⟨by first | rfl | (simp [errW_none, errW_some] <;> rfl) | (simp [*, errW_none, errW_some] <;> rfl), bB HB.out⟩
            ·rw [if_neg c38] at H
             have c38b0 : decide (((rd_T46 l0_1 x32_2).f2) < 0) = false := decide_eq_false c38
             clear c38
             by_cases c47 : ((rd_T46 l0_1 x32_2).f2) ≥ x103000_2
             ·rw [if_pos c47] at H
              have c47b0 : decide (x103000_2 ≤ ((rd_T46 l0_1 x32_2).f2)) = true := decide_eq_true c47
              clear c47
              obtain rfl := Option.some.inj H
              have p103 : 0 ≤ (x32_2 : Int) := of_decide_eq_true (by first | with_reducible assumption | assumption)
              have q103 : x32_2 < (l0_1.length : Int) := of_decide_eq_true (by first | with_reducible assumption | assumption)
              obtain ⟨ad103, e103, hx103_0, hx103_1, hx103_2, hx103_3, hx103_4, hx103_5, hx103_6, hx103_7, hx103_8, hx103_9, hx103_10⟩ := at_T46 HR0_1.out x32_2 p103 q103
              cases e103
              replace hx103_0 := (HB.out.cell (World.block_lt_of_cell? w _ hx103_0)).trans hx103_0
              replace hx103_1 := (HB.out.cell (World.block_lt_of_cell? w _ hx103_1)).trans hx103_1
              replace hx103_2 := (HB.out.cell (World.block_lt_of_cell? w _ hx103_2)).trans hx103_2
              replace hx103_3 := (HB.out.cell (World.block_lt_of_cell? w _ hx103_3)).trans hx103_3
              replace hx103_4 := (HB.out.cell (World.block_lt_of_cell? w _ hx103_4)).trans hx103_4
              replace hx103_5 := (HB.out.cell (World.block_lt_of_cell? w _ hx103_5)).trans hx103_5
              replace hx103_6 := (HB.out.cell (World.block_lt_of_cell? w _ hx103_6)).trans hx103_6
              replace hx103_7 := (HB.out.cell (World.block_lt_of_cell? w _ hx103_7)).trans hx103_7
              replace hx103_8 := (HB.out.cell (World.block_lt_of_cell? w _ hx103_8)).trans hx103_8
              replace hx103_9 := (HB.out.cell (World.block_lt_of_cell? w _ hx103_9)).trans hx103_9
              replace hx103_10 := (HB.out.cell (World.block_lt_of_cell? w _ hx103_10)).trans hx103_10
              replace p103 := eq_true p103
              replace q103 := eq_true q103
              go_wp2_with (first | ((with_reducible refine gate_dst (N := 5) rfl ?_); (try (refine gate_guard (by rfl) ?_; dsimp only)); refine box_event ?hg (N := 5) ?hd (cs := #[.int .i64 0, .int .i64 0, .int .i64 0, .int .i64 0, .int .i64 0, .int .i64 0, .int .i64 0, .int .i64 0, .int .i64 0, .int .i64 0, .int .i64 0]) (t := 46) ?hr ?_; (case hd => rfl); (case hg => rfl); (case hr => first | (go_simp; done) | (go_simp; rfl)); intro gb104 hg w48 hbox hb; have n0_ := am (blk_below (bA BK101.out) hb); have n1_ := am (blk_below (bA BK102.out) hb); have n2_ := am (below_step (bB HB.out) hb); have n3_ := am (hbox); have n4_ := am ((by rw [hg]; exact (below_size (bB HB.out)) : w.heap.size ≤ gb104)); have n5_ := am ((by rw [hg]; exact (below_size (bB HB.out)) : w.heap.size ≤ gb104)); have n6_ := am ((by rw [hg]; exact Nat.ne_of_lt (blk_lt (g := gb101) (o := .cells #[.int .i64 a0_0, .slice (some ad103) l0_1.length c0_1, .slice A0_2 l0_2.length c0_2] 35 (0, 0)) (bA BK101.out)) : gb101 ≠ gb104)); have n7_ := am ((by rw [hg]; exact Nat.ne_of_gt (blk_lt (g := gb101) (o := .cells #[.int .i64 a0_0, .slice (some ad103) l0_1.length c0_1, .slice A0_2 l0_2.length c0_2] 35 (0, 0)) (bA BK101.out)) : gb104 ≠ gb101)); have n8_ := am ((by rw [hg]; exact Nat.ne_of_lt (blk_lt (g := gb102) (o := .cells #[.int .i64 x103000_2] 3 (0, 0)) (bA BK102.out)) : gb102 ≠ gb104)); have n9_ := am ((by rw [hg]; exact Nat.ne_of_gt (blk_lt (g := gb102) (o := .cells #[.int .i64 x103000_2] 3 (0, 0)) (bA BK102.out)) : gb104 ≠ gb102)); clear BK101; clear BK102; clear HB; have BK101 := n0_; have BK102 := n1_; have HB := n2_; have BK104 := n3_; have GW104 := n4_; have GE104 := n5_; have NB101_104 := n6_; have NB104_101 := n7_; have NB102_104 := n8_; have NB104_102 := n9_; clear n0_ n1_ n2_ n3_ n4_ n5_ n6_ n7_ n8_ n9_; clear hb hbox hg; have hnb49 := NB104_101.out; have hnc49 := NB101_104.out; have hnb50 := NB104_102.out; have hnc50 := NB102_104.out; have hcz51_0 : w48.cell? ⟨gb104, 0, none⟩ = some (.int .i64 0) := (blk_cell BK104.out 0).trans rfl; have hcz51_1 : w48.cell? ⟨gb104, 1, none⟩ = some (.int .i64 0) := (blk_cell BK104.out 1).trans rfl; have hcz51_2 : w48.cell? ⟨gb104, 2, none⟩ = some (.int .i64 0) := (blk_cell BK104.out 2).trans rfl; have hcz51_3 : w48.cell? ⟨gb104, 3, none⟩ = some (.int .i64 0) := (blk_cell BK104.out 3).trans rfl; have hcz51_4 : w48.cell? ⟨gb104, 4, none⟩ = some (.int .i64 0) := (blk_cell BK104.out 4).trans rfl; have hcz51_5 : w48.cell? ⟨gb104, 5, none⟩ = some (.int .i64 0) := (blk_cell BK104.out 5).trans rfl; have hcz51_6 : w48.cell? ⟨gb104, 6, none⟩ = some (.int .i64 0) := (blk_cell BK104.out 6).trans rfl; have hcz51_7 : w48.cell? ⟨gb104, 7, none⟩ = some (.int .i64 0) := (blk_cell BK104.out 7).trans rfl; have hcz51_8 : w48.cell? ⟨gb104, 8, none⟩ = some (.int .i64 0) := (blk_cell BK104.out 8).trans rfl; have hcz51_9 : w48.cell? ⟨gb104, 9, none⟩ = some (.int .i64 0) := (blk_cell BK104.out 9).trans rfl; have hcz51_10 : w48.cell? ⟨gb104, 10, none⟩ = some (.int .i64 0) := (blk_cell BK104.out 10).trans rfl; have hfz51_0 := blk_frozen BK104.out 0; have hfz51_1 := blk_frozen BK104.out 1; have hfz51_2 := blk_frozen BK104.out 2; have hfz51_3 := blk_frozen BK104.out 3; have hfz51_4 := blk_frozen BK104.out 4; have hfz51_5 := blk_frozen BK104.out 5; have hfz51_6 := blk_frozen BK104.out 6; have hfz51_7 := blk_frozen BK104.out 7; have hfz51_8 := blk_frozen BK104.out 8; have hfz51_9 := blk_frozen BK104.out 9; have hfz51_10 := blk_frozen BK104.out 10) | ((with_reducible refine gate_callee (f := 58) rfl ?_); refine goesL_ (some 38) rfl rfl Try.func58 (by kernel_rfl) rfl #[.agg #[.int .i64 ((rd_T46 l0_1 x32_2).f0.f0), .int .i64 ((rd_T46 l0_1 x32_2).f0.f1), .int .i64 ((rd_T46 l0_1 x32_2).f0.f2), .int .i64 ((rd_T46 l0_1 x32_2).f0.f3), .int .i64 ((rd_T46 l0_1 x32_2).f0.f4), .int .i64 ((rd_T46 l0_1 x32_2).f0.f5), .int .i64 ((rd_T46 l0_1 x32_2).f0.f6), .int .i64 ((rd_T46 l0_1 x32_2).f0.f7), .int .i64 ((rd_T46 l0_1 x32_2).f0.f8)]] rfl bE ?_; (with_reducible refine (impl_IsTable.calls ((rd_T46 l0_1 x32_2).f0.f0) ((rd_T46 l0_1 x32_2).f0.f1) ((rd_T46 l0_1 x32_2).f0.f2) ((rd_T46 l0_1 x32_2).f0.f3) ((rd_T46 l0_1 x32_2).f0.f4) ((rd_T46 l0_1 x32_2).f0.f5) ((rd_T46 l0_1 x32_2).f0.f6) ((rd_T46 l0_1 x32_2).f0.f7) ((rd_T46 l0_1 x32_2).f0.f8) true _ A20.out).mono ?_); rintro e w52 ⟨rfl, hb⟩; refine ⟨_, rfl, ?_⟩; have n0_ := am (blk_below (g := gb101) (o := .cells #[.int .i64 a0_0, .slice (some ad103) l0_1.length c0_1, .slice A0_2 l0_2.length c0_2] 35 (0, 0)) (by (with_reducible repeat (first | refine blk_drewN ?_ _ | refine blk_drew ?_ | refine blk_alloc ?_ _)); refine blk_far ?_ NB101_104.out _; (with_reducible repeat (first | refine blk_drewN ?_ _ | refine blk_drew ?_ | refine blk_alloc ?_ _)); refine blk_far ?_ NB101_104.out _; (with_reducible repeat (first | refine blk_drewN ?_ _ | refine blk_drew ?_ | refine blk_alloc ?_ _)); refine blk_far ?_ NB101_104.out _; (with_reducible repeat (first | refine blk_drewN ?_ _ | refine blk_drew ?_ | refine blk_alloc ?_ _)); refine blk_far ?_ NB101_104.out _; (with_reducible repeat (first | refine blk_drewN ?_ _ | refine blk_drew ?_ | refine blk_alloc ?_ _)); refine blk_far ?_ NB101_104.out _; (with_reducible repeat (first | refine blk_drewN ?_ _ | refine blk_drew ?_ | refine blk_alloc ?_ _)); refine blk_far ?_ NB101_104.out _; (with_reducible repeat (first | refine blk_drewN ?_ _ | refine blk_drew ?_ | refine blk_alloc ?_ _)); refine blk_far ?_ NB101_104.out _; (with_reducible repeat (first | refine blk_drewN ?_ _ | refine blk_drew ?_ | refine blk_alloc ?_ _)); refine blk_far ?_ NB101_104.out _; (with_reducible repeat (first | refine blk_drewN ?_ _ | refine blk_drew ?_ | refine blk_alloc ?_ _)); refine blk_far ?_ NB101_104.out _; (with_reducible repeat (first | refine blk_drewN ?_ _ | refine blk_drew ?_ | refine blk_alloc ?_ _)); refine blk_far ?_ NB101_104.out _; (with_reducible repeat (first | refine blk_drewN ?_ _ | refine blk_drew ?_ | refine blk_alloc ?_ _)); refine blk_far ?_ NB101_104.out _; (with_reducible repeat (first | refine blk_drewN ?_ _ | refine blk_drew ?_ | refine blk_alloc ?_ _)); exact BK101.out) hb); have n1_ := am (blk_below (g := gb102) (o := .cells #[.int .i64 x103000_2] 3 (0, 0)) (by (with_reducible repeat (first | refine blk_drewN ?_ _ | refine blk_drew ?_ | refine blk_alloc ?_ _)); refine blk_far ?_ NB102_104.out _; (with_reducible repeat (first | refine blk_drewN ?_ _ | refine blk_drew ?_ | refine blk_alloc ?_ _)); refine blk_far ?_ NB102_104.out _; (with_reducible repeat (first | refine blk_drewN ?_ _ | refine blk_drew ?_ | refine blk_alloc ?_ _)); refine blk_far ?_ NB102_104.out _; (with_reducible repeat (first | refine blk_drewN ?_ _ | refine blk_drew ?_ | refine blk_alloc ?_ _)); refine blk_far ?_ NB102_104.out _; (with_reducible repeat (first | refine blk_drewN ?_ _ | refine blk_drew ?_ | refine blk_alloc ?_ _)); refine blk_far ?_ NB102_104.out _; (with_reducible repeat (first | refine blk_drewN ?_ _ | refine blk_drew ?_ | refine blk_alloc ?_ _)); refine blk_far ?_ NB102_104.out _; (with_reducible repeat (first | refine blk_drewN ?_ _ | refine blk_drew ?_ | refine blk_alloc ?_ _)); refine blk_far ?_ NB102_104.out _; (with_reducible repeat (first | refine blk_drewN ?_ _ | refine blk_drew ?_ | refine blk_alloc ?_ _)); refine blk_far ?_ NB102_104.out _; (with_reducible repeat (first | refine blk_drewN ?_ _ | refine blk_drew ?_ | refine blk_alloc ?_ _)); refine blk_far ?_ NB102_104.out _; (with_reducible repeat (first | refine blk_drewN ?_ _ | refine blk_drew ?_ | refine blk_alloc ?_ _)); refine blk_far ?_ NB102_104.out _; (with_reducible repeat (first | refine blk_drewN ?_ _ | refine blk_drew ?_ | refine blk_alloc ?_ _)); refine blk_far ?_ NB102_104.out _; (with_reducible repeat (first | refine blk_drewN ?_ _ | refine blk_drew ?_ | refine blk_alloc ?_ _)); exact BK102.out) hb); have n2_ := am (blk_below (g := gb104) (o := .cells #[.int .i64 ((rd_T46 l0_1 x32_2).f0.f0), .int .i64 ((rd_T46 l0_1 x32_2).f0.f1), .int .i64 ((rd_T46 l0_1 x32_2).f0.f2), .int .i64 ((rd_T46 l0_1 x32_2).f0.f3), .int .i64 ((rd_T46 l0_1 x32_2).f0.f4), .int .i64 ((rd_T46 l0_1 x32_2).f0.f5), .int .i64 ((rd_T46 l0_1 x32_2).f0.f6), .int .i64 ((rd_T46 l0_1 x32_2).f0.f7), .int .i64 ((rd_T46 l0_1 x32_2).f0.f8), .int .i64 ((rd_T46 l0_1 x32_2).f1), .int .i64 ((rd_T46 l0_1 x32_2).f2)] 46 (0, 0)) (by (with_reducible repeat (first | refine blk_drewN ?_ _ | refine blk_drew ?_ | refine blk_alloc ?_ _)); refine blk_put (cs := #[.int .i64 ((rd_T46 l0_1 x32_2).f0.f0), .int .i64 ((rd_T46 l0_1 x32_2).f0.f1), .int .i64 ((rd_T46 l0_1 x32_2).f0.f2), .int .i64 ((rd_T46 l0_1 x32_2).f0.f3), .int .i64 ((rd_T46 l0_1 x32_2).f0.f4), .int .i64 ((rd_T46 l0_1 x32_2).f0.f5), .int .i64 ((rd_T46 l0_1 x32_2).f0.f6), .int .i64 ((rd_T46 l0_1 x32_2).f0.f7), .int .i64 ((rd_T46 l0_1 x32_2).f0.f8), .int .i64 ((rd_T46 l0_1 x32_2).f1), .int .i64 0]) ?_ 10 _ rfl; (with_reducible repeat (first | refine blk_drewN ?_ _ | refine blk_drew ?_ | refine blk_alloc ?_ _)); refine blk_put (cs := #[.int .i64 ((rd_T46 l0_1 x32_2).f0.f0), .int .i64 ((rd_T46 l0_1 x32_2).f0.f1), .int .i64 ((rd_T46 l0_1 x32_2).f0.f2), .int .i64 ((rd_T46 l0_1 x32_2).f0.f3), .int .i64 ((rd_T46 l0_1 x32_2).f0.f4), .int .i64 ((rd_T46 l0_1 x32_2).f0.f5), .int .i64 ((rd_T46 l0_1 x32_2).f0.f6), .int .i64 ((rd_T46 l0_1 x32_2).f0.f7), .int .i64 ((rd_T46 l0_1 x32_2).f0.f8), .int .i64 0, .int .i64 0]) ?_ 9 _ rfl; (with_reducible repeat (first | refine blk_drewN ?_ _ | refine blk_drew ?_ | refine blk_alloc ?_ _)); refine blk_put (cs := #[.int .i64 ((rd_T46 l0_1 x32_2).f0.f0), .int .i64 ((rd_T46 l0_1 x32_2).f0.f1), .int .i64 ((rd_T46 l0_1 x32_2).f0.f2), .int .i64 ((rd_T46 l0_1 x32_2).f0.f3), .int .i64 ((rd_T46 l0_1 x32_2).f0.f4), .int .i64 ((rd_T46 l0_1 x32_2).f0.f5), .int .i64 ((rd_T46 l0_1 x32_2).f0.f6), .int .i64 ((rd_T46 l0_1 x32_2).f0.f7), .int .i64 0, .int .i64 0, .int .i64 0]) ?_ 8 _ rfl; (with_reducible repeat (first | refine blk_drewN ?_ _ | refine blk_drew ?_ | refine blk_alloc ?_ _)); refine blk_put (cs := #[.int .i64 ((rd_T46 l0_1 x32_2).f0.f0), .int .i64 ((rd_T46 l0_1 x32_2).f0.f1), .int .i64 ((rd_T46 l0_1 x32_2).f0.f2), .int .i64 ((rd_T46 l0_1 x32_2).f0.f3), .int .i64 ((rd_T46 l0_1 x32_2).f0.f4), .int .i64 ((rd_T46 l0_1 x32_2).f0.f5), .int .i64 ((rd_T46 l0_1 x32_2).f0.f6), .int .i64 0, .int .i64 0, .int .i64 0, .int .i64 0]) ?_ 7 _ rfl; (with_reducible repeat (first | refine blk_drewN ?_ _ | refine blk_drew ?_ | refine blk_alloc ?_ _)); refine blk_put (cs := #[.int .i64 ((rd_T46 l0_1 x32_2).f0.f0), .int .i64 ((rd_T46 l0_1 x32_2).f0.f1), .int .i64 ((rd_T46 l0_1 x32_2).f0.f2), .int .i64 ((rd_T46 l0_1 x32_2).f0.f3), .int .i64 ((rd_T46 l0_1 x32_2).f0.f4), .int .i64 ((rd_T46 l0_1 x32_2).f0.f5), .int .i64 0, .int .i64 0, .int .i64 0, .int .i64 0, .int .i64 0]) ?_ 6 _ rfl; (with_reducible repeat (first | refine blk_drewN ?_ _ | refine blk_drew ?_ | refine blk_alloc ?_ _)); refine blk_put (cs := #[.int .i64 ((rd_T46 l0_1 x32_2).f0.f0), .int .i64 ((rd_T46 l0_1 x32_2).f0.f1), .int .i64 ((rd_T46 l0_1 x32_2).f0.f2), .int .i64 ((rd_T46 l0_1 x32_2).f0.f3), .int .i64 ((rd_T46 l0_1 x32_2).f0.f4), .int .i64 0, .int .i64 0, .int .i64 0, .int .i64 0, .int .i64 0, .int .i64 0]) ?_ 5 _ rfl; (with_reducible repeat (first | refine blk_drewN ?_ _ | refine blk_drew ?_ | refine blk_alloc ?_ _)); refine blk_put (cs := #[.int .i64 ((rd_T46 l0_1 x32_2).f0.f0), .int .i64 ((rd_T46 l0_1 x32_2).f0.f1), .int .i64 ((rd_T46 l0_1 x32_2).f0.f2), .int .i64 ((rd_T46 l0_1 x32_2).f0.f3), .int .i64 0, .int .i64 0, .int .i64 0, .int .i64 0, .int .i64 0, .int .i64 0, .int .i64 0]) ?_ 4 _ rfl; (with_reducible repeat (first | refine blk_drewN ?_ _ | refine blk_drew ?_ | refine blk_alloc ?_ _)); refine blk_put (cs := #[.int .i64 ((rd_T46 l0_1 x32_2).f0.f0), .int .i64 ((rd_T46 l0_1 x32_2).f0.f1), .int .i64 ((rd_T46 l0_1 x32_2).f0.f2), .int .i64 0, .int .i64 0, .int .i64 0, .int .i64 0, .int .i64 0, .int .i64 0, .int .i64 0, .int .i64 0]) ?_ 3 _ rfl; (with_reducible repeat (first | refine blk_drewN ?_ _ | refine blk_drew ?_ | refine blk_alloc ?_ _)); refine blk_put (cs := #[.int .i64 ((rd_T46 l0_1 x32_2).f0.f0), .int .i64 ((rd_T46 l0_1 x32_2).f0.f1), .int .i64 0, .int .i64 0, .int .i64 0, .int .i64 0, .int .i64 0, .int .i64 0, .int .i64 0, .int .i64 0, .int .i64 0]) ?_ 2 _ rfl; (with_reducible repeat (first | refine blk_drewN ?_ _ | refine blk_drew ?_ | refine blk_alloc ?_ _)); refine blk_put (cs := #[.int .i64 ((rd_T46 l0_1 x32_2).f0.f0), .int .i64 0, .int .i64 0, .int .i64 0, .int .i64 0, .int .i64 0, .int .i64 0, .int .i64 0, .int .i64 0, .int .i64 0, .int .i64 0]) ?_ 1 _ rfl; (with_reducible repeat (first | refine blk_drewN ?_ _ | refine blk_drew ?_ | refine blk_alloc ?_ _)); refine blk_put (cs := #[.int .i64 0, .int .i64 0, .int .i64 0, .int .i64 0, .int .i64 0, .int .i64 0, .int .i64 0, .int .i64 0, .int .i64 0, .int .i64 0, .int .i64 0]) ?_ 0 _ rfl; (with_reducible repeat (first | refine blk_drewN ?_ _ | refine blk_drew ?_ | refine blk_alloc ?_ _)); exact BK104.out) hb); have n3_ := am (below_step (bB HB.out) hb); clear BK101; clear BK102; clear BK104; clear HB; have BK101 := n0_; have BK102 := n1_; have BK104 := n2_; have HB := n3_; clear n0_ n1_ n2_ n3_; (try clear hb); (try clear hb2); (try clear hk); (try clear hi); have hcz53_0 : w52.cell? ⟨gb104, 0, none⟩ = some (.int .i64 ((rd_T46 l0_1 x32_2).f0.f0)) := (blk_cell BK104.out 0).trans rfl; have hcz53_1 : w52.cell? ⟨gb104, 1, none⟩ = some (.int .i64 ((rd_T46 l0_1 x32_2).f0.f1)) := (blk_cell BK104.out 1).trans rfl; have hcz53_2 : w52.cell? ⟨gb104, 2, none⟩ = some (.int .i64 ((rd_T46 l0_1 x32_2).f0.f2)) := (blk_cell BK104.out 2).trans rfl; have hcz53_3 : w52.cell? ⟨gb104, 3, none⟩ = some (.int .i64 ((rd_T46 l0_1 x32_2).f0.f3)) := (blk_cell BK104.out 3).trans rfl; have hcz53_4 : w52.cell? ⟨gb104, 4, none⟩ = some (.int .i64 ((rd_T46 l0_1 x32_2).f0.f4)) := (blk_cell BK104.out 4).trans rfl; have hcz53_5 : w52.cell? ⟨gb104, 5, none⟩ = some (.int .i64 ((rd_T46 l0_1 x32_2).f0.f5)) := (blk_cell BK104.out 5).trans rfl; have hcz53_6 : w52.cell? ⟨gb104, 6, none⟩ = some (.int .i64 ((rd_T46 l0_1 x32_2).f0.f6)) := (blk_cell BK104.out 6).trans rfl; have hcz53_7 : w52.cell? ⟨gb104, 7, none⟩ = some (.int .i64 ((rd_T46 l0_1 x32_2).f0.f7)) := (blk_cell BK104.out 7).trans rfl; have hcz53_8 : w52.cell? ⟨gb104, 8, none⟩ = some (.int .i64 ((rd_T46 l0_1 x32_2).f0.f8)) := (blk_cell BK104.out 8).trans rfl; have hcz53_9 : w52.cell? ⟨gb104, 9, none⟩ = some (.int .i64 ((rd_T46 l0_1 x32_2).f1)) := (blk_cell BK104.out 9).trans rfl; have hcz53_10 : w52.cell? ⟨gb104, 10, none⟩ = some (.int .i64 ((rd_T46 l0_1 x32_2).f2)) := (blk_cell BK104.out 10).trans rfl; have hfz53_0 := blk_frozen BK104.out 0; have hfz53_1 := blk_frozen BK104.out 1; have hfz53_2 := blk_frozen BK104.out 2; have hfz53_3 := blk_frozen BK104.out 3; have hfz53_4 := blk_frozen BK104.out 4; have hfz53_5 := blk_frozen BK104.out 5; have hfz53_6 := blk_frozen BK104.out 6; have hfz53_7 := blk_frozen BK104.out 7; have hfz53_8 := blk_frozen BK104.out 8; have hfz53_9 := blk_frozen BK104.out 9; have hfz53_10 := blk_frozen BK104.out 10; have hnb54 := NB102_101.out; have hnc54 := NB101_102.out; have hcz55_0 : w52.cell? ⟨gb102, 0, none⟩ = some (.int .i64 x103000_2) := (blk_cell BK102.out 0).trans rfl; have hfz55_0 := blk_frozen BK102.out 0))
              go_ret
              exact ⟨by first | rfl | (simp [errW_none, errW_some] <;> rfl) | (simp [*, errW_none, errW_some] <;> rfl), bB HB.out⟩
             ·rw [if_neg c47] at H
              have c47b0 : decide (x103000_2 ≤ ((rd_T46 l0_1 x32_2).f2)) = false := decide_eq_false c47
              clear c47
              have H' := am H
              clear H
              have p103 : 0 ≤ (x32_2 : Int) := of_decide_eq_true (by first | with_reducible assumption | assumption)
              have q103 : x32_2 < (l0_1.length : Int) := of_decide_eq_true (by first | with_reducible assumption | assumption)
              obtain ⟨ad103, e103, hx103_0, hx103_1, hx103_2, hx103_3, hx103_4, hx103_5, hx103_6, hx103_7, hx103_8, hx103_9, hx103_10⟩ := at_T46 HR0_1.out x32_2 p103 q103
              cases e103
              replace hx103_0 := (HB.out.cell (World.block_lt_of_cell? w _ hx103_0)).trans hx103_0
              replace hx103_1 := (HB.out.cell (World.block_lt_of_cell? w _ hx103_1)).trans hx103_1
              replace hx103_2 := (HB.out.cell (World.block_lt_of_cell? w _ hx103_2)).trans hx103_2
              replace hx103_3 := (HB.out.cell (World.block_lt_of_cell? w _ hx103_3)).trans hx103_3
              replace hx103_4 := (HB.out.cell (World.block_lt_of_cell? w _ hx103_4)).trans hx103_4
              replace hx103_5 := (HB.out.cell (World.block_lt_of_cell? w _ hx103_5)).trans hx103_5
              replace hx103_6 := (HB.out.cell (World.block_lt_of_cell? w _ hx103_6)).trans hx103_6
              replace hx103_7 := (HB.out.cell (World.block_lt_of_cell? w _ hx103_7)).trans hx103_7
              replace hx103_8 := (HB.out.cell (World.block_lt_of_cell? w _ hx103_8)).trans hx103_8
              replace hx103_9 := (HB.out.cell (World.block_lt_of_cell? w _ hx103_9)).trans hx103_9
              replace hx103_10 := (HB.out.cell (World.block_lt_of_cell? w _ hx103_10)).trans hx103_10
              replace p103 := eq_true p103
              replace q103 := eq_true q103
              go_wp2_with (first | ((with_reducible refine gate_dst (N := 5) rfl ?_); (try (refine gate_guard (by rfl) ?_; dsimp only)); refine box_event ?hg (N := 5) ?hd (cs := #[.int .i64 0, .int .i64 0, .int .i64 0, .int .i64 0, .int .i64 0, .int .i64 0, .int .i64 0, .int .i64 0, .int .i64 0, .int .i64 0, .int .i64 0]) (t := 46) ?hr ?_; (case hd => rfl); (case hg => rfl); (case hr => first | (go_simp; done) | (go_simp; rfl)); intro gb104 hg w56 hbox hb; have n0_ := am (blk_below (bA BK101.out) hb); have n1_ := am (blk_below (bA BK102.out) hb); have n2_ := am (below_step (bB HB.out) hb); have n3_ := am (hbox); have n4_ := am ((by rw [hg]; exact (below_size (bB HB.out)) : w.heap.size ≤ gb104)); have n5_ := am ((by rw [hg]; exact (below_size (bB HB.out)) : w.heap.size ≤ gb104)); have n6_ := am ((by rw [hg]; exact Nat.ne_of_lt (blk_lt (g := gb101) (o := .cells #[.int .i64 a0_0, .slice (some ad103) l0_1.length c0_1, .slice A0_2 l0_2.length c0_2] 35 (0, 0)) (bA BK101.out)) : gb101 ≠ gb104)); have n7_ := am ((by rw [hg]; exact Nat.ne_of_gt (blk_lt (g := gb101) (o := .cells #[.int .i64 a0_0, .slice (some ad103) l0_1.length c0_1, .slice A0_2 l0_2.length c0_2] 35 (0, 0)) (bA BK101.out)) : gb104 ≠ gb101)); have n8_ := am ((by rw [hg]; exact Nat.ne_of_lt (blk_lt (g := gb102) (o := .cells #[.int .i64 x103000_2] 3 (0, 0)) (bA BK102.out)) : gb102 ≠ gb104)); have n9_ := am ((by rw [hg]; exact Nat.ne_of_gt (blk_lt (g := gb102) (o := .cells #[.int .i64 x103000_2] 3 (0, 0)) (bA BK102.out)) : gb104 ≠ gb102)); clear BK101; clear BK102; clear HB; have BK101 := n0_; have BK102 := n1_; have HB := n2_; have BK104 := n3_; have GW104 := n4_; have GE104 := n5_; have NB101_104 := n6_; have NB104_101 := n7_; have NB102_104 := n8_; have NB104_102 := n9_; clear n0_ n1_ n2_ n3_ n4_ n5_ n6_ n7_ n8_ n9_; clear hb hbox hg; have hnb57 := NB104_101.out; have hnc57 := NB101_104.out; have hnb58 := NB104_102.out; have hnc58 := NB102_104.out; have hcz59_0 : w56.cell? ⟨gb104, 0, none⟩ = some (.int .i64 0) := (blk_cell BK104.out 0).trans rfl; have hcz59_1 : w56.cell? ⟨gb104, 1, none⟩ = some (.int .i64 0) := (blk_cell BK104.out 1).trans rfl; have hcz59_2 : w56.cell? ⟨gb104, 2, none⟩ = some (.int .i64 0) := (blk_cell BK104.out 2).trans rfl; have hcz59_3 : w56.cell? ⟨gb104, 3, none⟩ = some (.int .i64 0) := (blk_cell BK104.out 3).trans rfl; have hcz59_4 : w56.cell? ⟨gb104, 4, none⟩ = some (.int .i64 0) := (blk_cell BK104.out 4).trans rfl; have hcz59_5 : w56.cell? ⟨gb104, 5, none⟩ = some (.int .i64 0) := (blk_cell BK104.out 5).trans rfl; have hcz59_6 : w56.cell? ⟨gb104, 6, none⟩ = some (.int .i64 0) := (blk_cell BK104.out 6).trans rfl; have hcz59_7 : w56.cell? ⟨gb104, 7, none⟩ = some (.int .i64 0) := (blk_cell BK104.out 7).trans rfl; have hcz59_8 : w56.cell? ⟨gb104, 8, none⟩ = some (.int .i64 0) := (blk_cell BK104.out 8).trans rfl; have hcz59_9 : w56.cell? ⟨gb104, 9, none⟩ = some (.int .i64 0) := (blk_cell BK104.out 9).trans rfl; have hcz59_10 : w56.cell? ⟨gb104, 10, none⟩ = some (.int .i64 0) := (blk_cell BK104.out 10).trans rfl; have hfz59_0 := blk_frozen BK104.out 0; have hfz59_1 := blk_frozen BK104.out 1; have hfz59_2 := blk_frozen BK104.out 2; have hfz59_3 := blk_frozen BK104.out 3; have hfz59_4 := blk_frozen BK104.out 4; have hfz59_5 := blk_frozen BK104.out 5; have hfz59_6 := blk_frozen BK104.out 6; have hfz59_7 := blk_frozen BK104.out 7; have hfz59_8 := blk_frozen BK104.out 8; have hfz59_9 := blk_frozen BK104.out 9; have hfz59_10 := blk_frozen BK104.out 10) | ((with_reducible refine gate_callee (f := 58) rfl ?_); refine goesL_ (some 38) rfl rfl Try.func58 (by kernel_rfl) rfl #[.agg #[.int .i64 ((rd_T46 l0_1 x32_2).f0.f0), .int .i64 ((rd_T46 l0_1 x32_2).f0.f1), .int .i64 ((rd_T46 l0_1 x32_2).f0.f2), .int .i64 ((rd_T46 l0_1 x32_2).f0.f3), .int .i64 ((rd_T46 l0_1 x32_2).f0.f4), .int .i64 ((rd_T46 l0_1 x32_2).f0.f5), .int .i64 ((rd_T46 l0_1 x32_2).f0.f6), .int .i64 ((rd_T46 l0_1 x32_2).f0.f7), .int .i64 ((rd_T46 l0_1 x32_2).f0.f8)]] rfl bE ?_; (with_reducible refine (impl_IsTable.calls ((rd_T46 l0_1 x32_2).f0.f0) ((rd_T46 l0_1 x32_2).f0.f1) ((rd_T46 l0_1 x32_2).f0.f2) ((rd_T46 l0_1 x32_2).f0.f3) ((rd_T46 l0_1 x32_2).f0.f4) ((rd_T46 l0_1 x32_2).f0.f5) ((rd_T46 l0_1 x32_2).f0.f6) ((rd_T46 l0_1 x32_2).f0.f7) ((rd_T46 l0_1 x32_2).f0.f8) true _ A20.out).mono ?_); rintro e w60 ⟨rfl, hb⟩; refine ⟨_, rfl, ?_⟩; have n0_ := am (blk_below (g := gb101) (o := .cells #[.int .i64 a0_0, .slice (some ad103) l0_1.length c0_1, .slice A0_2 l0_2.length c0_2] 35 (0, 0)) (by (with_reducible repeat (first | refine blk_drewN ?_ _ | refine blk_drew ?_ | refine blk_alloc ?_ _)); refine blk_far ?_ NB101_104.out _; (with_reducible repeat (first | refine blk_drewN ?_ _ | refine blk_drew ?_ | refine blk_alloc ?_ _)); refine blk_far ?_ NB101_104.out _; (with_reducible repeat (first | refine blk_drewN ?_ _ | refine blk_drew ?_ | refine blk_alloc ?_ _)); refine blk_far ?_ NB101_104.out _; (with_reducible repeat (first | refine blk_drewN ?_ _ | refine blk_drew ?_ | refine blk_alloc ?_ _)); refine blk_far ?_ NB101_104.out _; (with_reducible repeat (first | refine blk_drewN ?_ _ | refine blk_drew ?_ | refine blk_alloc ?_ _)); refine blk_far ?_ NB101_104.out _; (with_reducible repeat (first | refine blk_drewN ?_ _ | refine blk_drew ?_ | refine blk_alloc ?_ _)); refine blk_far ?_ NB101_104.out _; (with_reducible repeat (first | refine blk_drewN ?_ _ | refine blk_drew ?_ | refine blk_alloc ?_ _)); refine blk_far ?_ NB101_104.out _; (with_reducible repeat (first | refine blk_drewN ?_ _ | refine blk_drew ?_ | refine blk_alloc ?_ _)); refine blk_far ?_ NB101_104.out _; (with_reducible repeat (first | refine blk_drewN ?_ _ | refine blk_drew ?_ | refine blk_alloc ?_ _)); refine blk_far ?_ NB101_104.out _; (with_reducible repeat (first | refine blk_drewN ?_ _ | refine blk_drew ?_ | refine blk_alloc ?_ _)); refine blk_far ?_ NB101_104.out _; (with_reducible repeat (first | refine blk_drewN ?_ _ | refine blk_drew ?_ | refine blk_alloc ?_ _)); refine blk_far ?_ NB101_104.out _; (with_reducible repeat (first | refine blk_drewN ?_ _ | refine blk_drew ?_ | refine blk_alloc ?_ _)); exact BK101.out) hb); have n1_ := am (blk_below (g := gb102) (o := .cells #[.int .i64 x103000_2] 3 (0, 0)) (by (with_reducible repeat (first | refine blk_drewN ?_ _ | refine blk_drew ?_ | refine blk_alloc ?_ _)); refine blk_far ?_ NB102_104.out _; (with_reducible repeat (first | refine blk_drewN ?_ _ | refine blk_drew ?_ | refine blk_alloc ?_ _)); refine blk_far ?_ NB102_104.out _; (with_reducible repeat (first | refine blk_drewN ?_ _ | refine blk_drew ?_ | refine blk_alloc ?_ _)); refine blk_far ?_ NB102_104.out _; (with_reducible repeat (first | refine blk_drewN ?_ _ | refine blk_drew ?_ | refine blk_alloc ?_ _)); refine blk_far ?_ NB102_104.out _; (with_reducible repeat (first | refine blk_drewN ?_ _ | refine blk_drew ?_ | refine blk_alloc ?_ _)); refine blk_far ?_ NB102_104.out _; (with_reducible repeat (first | refine blk_drewN ?_ _ | refine blk_drew ?_ | refine blk_alloc ?_ _)); refine blk_far ?_ NB102_104.out _; (with_reducible repeat (first | refine blk_drewN ?_ _ | refine blk_drew ?_ | refine blk_alloc ?_ _)); refine blk_far ?_ NB102_104.out _; (with_reducible repeat (first | refine blk_drewN ?_ _ | refine blk_drew ?_ | refine blk_alloc ?_ _)); refine blk_far ?_ NB102_104.out _; (with_reducible repeat (first | refine blk_drewN ?_ _ | refine blk_drew ?_ | refine blk_alloc ?_ _)); refine blk_far ?_ NB102_104.out _; (with_reducible repeat (first | refine blk_drewN ?_ _ | refine blk_drew ?_ | refine blk_alloc ?_ _)); refine blk_far ?_ NB102_104.out _; (with_reducible repeat (first | refine blk_drewN ?_ _ | refine blk_drew ?_ | refine blk_alloc ?_ _)); refine blk_far ?_ NB102_104.out _; (with_reducible repeat (first | refine blk_drewN ?_ _ | refine blk_drew ?_ | refine blk_alloc ?_ _)); exact BK102.out) hb); have n2_ := am (blk_below (g := gb104) (o := .cells #[.int .i64 ((rd_T46 l0_1 x32_2).f0.f0), .int .i64 ((rd_T46 l0_1 x32_2).f0.f1), .int .i64 ((rd_T46 l0_1 x32_2).f0.f2), .int .i64 ((rd_T46 l0_1 x32_2).f0.f3), .int .i64 ((rd_T46 l0_1 x32_2).f0.f4), .int .i64 ((rd_T46 l0_1 x32_2).f0.f5), .int .i64 ((rd_T46 l0_1 x32_2).f0.f6), .int .i64 ((rd_T46 l0_1 x32_2).f0.f7), .int .i64 ((rd_T46 l0_1 x32_2).f0.f8), .int .i64 ((rd_T46 l0_1 x32_2).f1), .int .i64 ((rd_T46 l0_1 x32_2).f2)] 46 (0, 0)) (by (with_reducible repeat (first | refine blk_drewN ?_ _ | refine blk_drew ?_ | refine blk_alloc ?_ _)); refine blk_put (cs := #[.int .i64 ((rd_T46 l0_1 x32_2).f0.f0), .int .i64 ((rd_T46 l0_1 x32_2).f0.f1), .int .i64 ((rd_T46 l0_1 x32_2).f0.f2), .int .i64 ((rd_T46 l0_1 x32_2).f0.f3), .int .i64 ((rd_T46 l0_1 x32_2).f0.f4), .int .i64 ((rd_T46 l0_1 x32_2).f0.f5), .int .i64 ((rd_T46 l0_1 x32_2).f0.f6), .int .i64 ((rd_T46 l0_1 x32_2).f0.f7), .int .i64 ((rd_T46 l0_1 x32_2).f0.f8), .int .i64 ((rd_T46 l0_1 x32_2).f1), .int .i64 0]) ?_ 10 _ rfl; (with_reducible repeat (first | refine blk_drewN ?_ _ | refine blk_drew ?_ | refine blk_alloc ?_ _)); refine blk_put (cs := #[.int .i64 ((rd_T46 l0_1 x32_2).f0.f0), .int .i64 ((rd_T46 l0_1 x32_2).f0.f1), .int .i64 ((rd_T46 l0_1 x32_2).f0.f2), .int .i64 ((rd_T46 l0_1 x32_2).f0.f3), .int .i64 ((rd_T46 l0_1 x32_2).f0.f4), .int .i64 ((rd_T46 l0_1 x32_2).f0.f5), .int .i64 ((rd_T46 l0_1 x32_2).f0.f6), .int .i64 ((rd_T46 l0_1 x32_2).f0.f7), .int .i64 ((rd_T46 l0_1 x32_2).f0.f8), .int .i64 0, .int .i64 0]) ?_ 9 _ rfl; (with_reducible repeat (first | refine blk_drewN ?_ _ | refine blk_drew ?_ | refine blk_alloc ?_ _)); refine blk_put (cs := #[.int .i64 ((rd_T46 l0_1 x32_2).f0.f0), .int .i64 ((rd_T46 l0_1 x32_2).f0.f1), .int .i64 ((rd_T46 l0_1 x32_2).f0.f2), .int .i64 ((rd_T46 l0_1 x32_2).f0.f3), .int .i64 ((rd_T46 l0_1 x32_2).f0.f4), .int .i64 ((rd_T46 l0_1 x32_2).f0.f5), .int .i64 ((rd_T46 l0_1 x32_2).f0.f6), .int .i64 ((rd_T46 l0_1 x32_2).f0.f7), .int .i64 0, .int .i64 0, .int .i64 0]) ?_ 8 _ rfl; (with_reducible repeat (first | refine blk_drewN ?_ _ | refine blk_drew ?_ | refine blk_alloc ?_ _)); refine blk_put (cs := #[.int .i64 ((rd_T46 l0_1 x32_2).f0.f0), .int .i64 ((rd_T46 l0_1 x32_2).f0.f1), .int .i64 ((rd_T46 l0_1 x32_2).f0.f2), .int .i64 ((rd_T46 l0_1 x32_2).f0.f3), .int .i64 ((rd_T46 l0_1 x32_2).f0.f4), .int .i64 ((rd_T46 l0_1 x32_2).f0.f5), .int .i64 ((rd_T46 l0_1 x32_2).f0.f6), .int .i64 0, .int .i64 0, .int .i64 0, .int .i64 0]) ?_ 7 _ rfl; (with_reducible repeat (first | refine blk_drewN ?_ _ | refine blk_drew ?_ | refine blk_alloc ?_ _)); refine blk_put (cs := #[.int .i64 ((rd_T46 l0_1 x32_2).f0.f0), .int .i64 ((rd_T46 l0_1 x32_2).f0.f1), .int .i64 ((rd_T46 l0_1 x32_2).f0.f2), .int .i64 ((rd_T46 l0_1 x32_2).f0.f3), .int .i64 ((rd_T46 l0_1 x32_2).f0.f4), .int .i64 ((rd_T46 l0_1 x32_2).f0.f5), .int .i64 0, .int .i64 0, .int .i64 0, .int .i64 0, .int .i64 0]) ?_ 6 _ rfl; (with_reducible repeat (first | refine blk_drewN ?_ _ | refine blk_drew ?_ | refine blk_alloc ?_ _)); refine blk_put (cs := #[.int .i64 ((rd_T46 l0_1 x32_2).f0.f0), .int .i64 ((rd_T46 l0_1 x32_2).f0.f1), .int .i64 ((rd_T46 l0_1 x32_2).f0.f2), .int .i64 ((rd_T46 l0_1 x32_2).f0.f3), .int .i64 ((rd_T46 l0_1 x32_2).f0.f4), .int .i64 0, .int .i64 0, .int .i64 0, .int .i64 0, .int .i64 0, .int .i64 0]) ?_ 5 _ rfl; (with_reducible repeat (first | refine blk_drewN ?_ _ | refine blk_drew ?_ | refine blk_alloc ?_ _)); refine blk_put (cs := #[.int .i64 ((rd_T46 l0_1 x32_2).f0.f0), .int .i64 ((rd_T46 l0_1 x32_2).f0.f1), .int .i64 ((rd_T46 l0_1 x32_2).f0.f2), .int .i64 ((rd_T46 l0_1 x32_2).f0.f3), .int .i64 0, .int .i64 0, .int .i64 0, .int .i64 0, .int .i64 0, .int .i64 0, .int .i64 0]) ?_ 4 _ rfl; (with_reducible repeat (first | refine blk_drewN ?_ _ | refine blk_drew ?_ | refine blk_alloc ?_ _)); refine blk_put (cs := #[.int .i64 ((rd_T46 l0_1 x32_2).f0.f0), .int .i64 ((rd_T46 l0_1 x32_2).f0.f1), .int .i64 ((rd_T46 l0_1 x32_2).f0.f2), .int .i64 0, .int .i64 0, .int .i64 0, .int .i64 0, .int .i64 0, .int .i64 0, .int .i64 0, .int .i64 0]) ?_ 3 _ rfl; (with_reducible repeat (first | refine blk_drewN ?_ _ | refine blk_drew ?_ | refine blk_alloc ?_ _)); refine blk_put (cs := #[.int .i64 ((rd_T46 l0_1 x32_2).f0.f0), .int .i64 ((rd_T46 l0_1 x32_2).f0.f1), .int .i64 0, .int .i64 0, .int .i64 0, .int .i64 0, .int .i64 0, .int .i64 0, .int .i64 0, .int .i64 0, .int .i64 0]) ?_ 2 _ rfl; (with_reducible repeat (first | refine blk_drewN ?_ _ | refine blk_drew ?_ | refine blk_alloc ?_ _)); refine blk_put (cs := #[.int .i64 ((rd_T46 l0_1 x32_2).f0.f0), .int .i64 0, .int .i64 0, .int .i64 0, .int .i64 0, .int .i64 0, .int .i64 0, .int .i64 0, .int .i64 0, .int .i64 0, .int .i64 0]) ?_ 1 _ rfl; (with_reducible repeat (first | refine blk_drewN ?_ _ | refine blk_drew ?_ | refine blk_alloc ?_ _)); refine blk_put (cs := #[.int .i64 0, .int .i64 0, .int .i64 0, .int .i64 0, .int .i64 0, .int .i64 0, .int .i64 0, .int .i64 0, .int .i64 0, .int .i64 0, .int .i64 0]) ?_ 0 _ rfl; (with_reducible repeat (first | refine blk_drewN ?_ _ | refine blk_drew ?_ | refine blk_alloc ?_ _)); exact BK104.out) hb); have n3_ := am (below_step (bB HB.out) hb); clear BK101; clear BK102; clear BK104; clear HB; have BK101 := n0_; have BK102 := n1_; have BK104 := n2_; have HB := n3_; clear n0_ n1_ n2_ n3_; (try clear hb); (try clear hb2); (try clear hk); (try clear hi); have hcz61_0 : w60.cell? ⟨gb104, 0, none⟩ = some (.int .i64 ((rd_T46 l0_1 x32_2).f0.f0)) := (blk_cell BK104.out 0).trans rfl; have hcz61_1 : w60.cell? ⟨gb104, 1, none⟩ = some (.int .i64 ((rd_T46 l0_1 x32_2).f0.f1)) := (blk_cell BK104.out 1).trans rfl; have hcz61_2 : w60.cell? ⟨gb104, 2, none⟩ = some (.int .i64 ((rd_T46 l0_1 x32_2).f0.f2)) := (blk_cell BK104.out 2).trans rfl; have hcz61_3 : w60.cell? ⟨gb104, 3, none⟩ = some (.int .i64 ((rd_T46 l0_1 x32_2).f0.f3)) := (blk_cell BK104.out 3).trans rfl; have hcz61_4 : w60.cell? ⟨gb104, 4, none⟩ = some (.int .i64 ((rd_T46 l0_1 x32_2).f0.f4)) := (blk_cell BK104.out 4).trans rfl; have hcz61_5 : w60.cell? ⟨gb104, 5, none⟩ = some (.int .i64 ((rd_T46 l0_1 x32_2).f0.f5)) := (blk_cell BK104.out 5).trans rfl; have hcz61_6 : w60.cell? ⟨gb104, 6, none⟩ = some (.int .i64 ((rd_T46 l0_1 x32_2).f0.f6)) := (blk_cell BK104.out 6).trans rfl; have hcz61_7 : w60.cell? ⟨gb104, 7, none⟩ = some (.int .i64 ((rd_T46 l0_1 x32_2).f0.f7)) := (blk_cell BK104.out 7).trans rfl; have hcz61_8 : w60.cell? ⟨gb104, 8, none⟩ = some (.int .i64 ((rd_T46 l0_1 x32_2).f0.f8)) := (blk_cell BK104.out 8).trans rfl; have hcz61_9 : w60.cell? ⟨gb104, 9, none⟩ = some (.int .i64 ((rd_T46 l0_1 x32_2).f1)) := (blk_cell BK104.out 9).trans rfl; have hcz61_10 : w60.cell? ⟨gb104, 10, none⟩ = some (.int .i64 ((rd_T46 l0_1 x32_2).f2)) := (blk_cell BK104.out 10).trans rfl; have hfz61_0 := blk_frozen BK104.out 0; have hfz61_1 := blk_frozen BK104.out 1; have hfz61_2 := blk_frozen BK104.out 2; have hfz61_3 := blk_frozen BK104.out 3; have hfz61_4 := blk_frozen BK104.out 4; have hfz61_5 := blk_frozen BK104.out 5; have hfz61_6 := blk_frozen BK104.out 6; have hfz61_7 := blk_frozen BK104.out 7; have hfz61_8 := blk_frozen BK104.out 8; have hfz61_9 := blk_frozen BK104.out 9; have hfz61_10 := blk_frozen BK104.out 10; have hnb62 := NB102_101.out; have hnc62 := NB101_102.out; have hcz63_0 : w60.cell? ⟨gb102, 0, none⟩ = some (.int .i64 x103000_2) := (blk_cell BK102.out 0).trans rfl; have hfz63_0 := blk_frozen BK102.out 0))
              go_roundg k2
              case measure => have := HJ1.out; have := HK2.out; omega
              case rel => exact ⟨(wrap64 (x32_2 + 1)), (wrap64 (x103000_2 + 1)), (by first | rfl | (simp; done) | (simp [*]; done)), H', ⟨by have := HJ1.out; have := HK2.out; omega⟩, ⟨by (with_reducible repeat (first | refine blk_drewN ?_ _ | refine blk_drew ?_ | refine blk_alloc ?_ _)); refine blk_far ?_ NB101_102.out _; (with_reducible repeat (first | refine blk_drewN ?_ _ | refine blk_drew ?_ | refine blk_alloc ?_ _)); exact BK101.out⟩, ⟨by (with_reducible repeat (first | refine blk_drewN ?_ _ | refine blk_drew ?_ | refine blk_alloc ?_ _)); refine blk_put (cs := #[.int .i64 x103000_2]) ?_ 0 _ rfl; (with_reducible repeat (first | refine blk_drewN ?_ _ | refine blk_drew ?_ | refine blk_alloc ?_ _)); exact BK102.out⟩, ⟨bB HB.out⟩⟩
         ·replace c21 := Bool.eq_false_iff.mpr c21
          subst c21
          have H1 : (some false) = some r := by rw [if_neg (show ¬ (false = true) by decide)] at H; exact H
          clear H; have H := H1; clear H1
          obtain rfl := Option.some.inj H
          have p103 : 0 ≤ (x32_2 : Int) := of_decide_eq_true (by first | with_reducible assumption | assumption)
          have q103 : x32_2 < (l0_1.length : Int) := of_decide_eq_true (by first | with_reducible assumption | assumption)
          obtain ⟨ad103, e103, hx103_0, hx103_1, hx103_2, hx103_3, hx103_4, hx103_5, hx103_6, hx103_7, hx103_8, hx103_9, hx103_10⟩ := at_T46 HR0_1.out x32_2 p103 q103
          cases e103
          replace hx103_0 := (HB.out.cell (World.block_lt_of_cell? w _ hx103_0)).trans hx103_0
          replace hx103_1 := (HB.out.cell (World.block_lt_of_cell? w _ hx103_1)).trans hx103_1
          replace hx103_2 := (HB.out.cell (World.block_lt_of_cell? w _ hx103_2)).trans hx103_2
          replace hx103_3 := (HB.out.cell (World.block_lt_of_cell? w _ hx103_3)).trans hx103_3
          replace hx103_4 := (HB.out.cell (World.block_lt_of_cell? w _ hx103_4)).trans hx103_4
          replace hx103_5 := (HB.out.cell (World.block_lt_of_cell? w _ hx103_5)).trans hx103_5
          replace hx103_6 := (HB.out.cell (World.block_lt_of_cell? w _ hx103_6)).trans hx103_6
          replace hx103_7 := (HB.out.cell (World.block_lt_of_cell? w _ hx103_7)).trans hx103_7
          replace hx103_8 := (HB.out.cell (World.block_lt_of_cell? w _ hx103_8)).trans hx103_8
          replace hx103_9 := (HB.out.cell (World.block_lt_of_cell? w _ hx103_9)).trans hx103_9
          replace hx103_10 := (HB.out.cell (World.block_lt_of_cell? w _ hx103_10)).trans hx103_10
          replace p103 := eq_true p103
          replace q103 := eq_true q103
          go_wp2_with (first | ((with_reducible refine gate_dst (N := 5) rfl ?_); (try (refine gate_guard (by rfl) ?_; dsimp only)); refine box_event ?hg (N := 5) ?hd (cs := #[.int .i64 0, .int .i64 0, .int .i64 0, .int .i64 0, .int .i64 0, .int .i64 0, .int .i64 0, .int .i64 0, .int .i64 0, .int .i64 0, .int .i64 0]) (t := 46) ?hr ?_; (case hd => rfl); (case hg => rfl); (case hr => first | (go_simp; done) | (go_simp; rfl)); intro gb104 hg w64 hbox hb; have n0_ := am (blk_below (bA BK101.out) hb); have n1_ := am (blk_below (bA BK102.out) hb); have n2_ := am (below_step (bB HB.out) hb); have n3_ := am (hbox); have n4_ := am ((by rw [hg]; exact (below_size (bB HB.out)) : w.heap.size ≤ gb104)); have n5_ := am ((by rw [hg]; exact (below_size (bB HB.out)) : w.heap.size ≤ gb104)); have n6_ := am ((by rw [hg]; exact Nat.ne_of_lt (blk_lt (g := gb101) (o := .cells #[.int .i64 a0_0, .slice (some ad103) l0_1.length c0_1, .slice A0_2 l0_2.length c0_2] 35 (0, 0)) (bA BK101.out)) : gb101 ≠ gb104)); have n7_ := am ((by rw [hg]; exact Nat.ne_of_gt (blk_lt (g := gb101) (o := .cells #[.int .i64 a0_0, .slice (some ad103) l0_1.length c0_1, .slice A0_2 l0_2.length c0_2] 35 (0, 0)) (bA BK101.out)) : gb104 ≠ gb101)); have n8_ := am ((by rw [hg]; exact Nat.ne_of_lt (blk_lt (g := gb102) (o := .cells #[.int .i64 x103000_2] 3 (0, 0)) (bA BK102.out)) : gb102 ≠ gb104)); have n9_ := am ((by rw [hg]; exact Nat.ne_of_gt (blk_lt (g := gb102) (o := .cells #[.int .i64 x103000_2] 3 (0, 0)) (bA BK102.out)) : gb104 ≠ gb102)); clear BK101; clear BK102; clear HB; have BK101 := n0_; have BK102 := n1_; have HB := n2_; have BK104 := n3_; have GW104 := n4_; have GE104 := n5_; have NB101_104 := n6_; have NB104_101 := n7_; have NB102_104 := n8_; have NB104_102 := n9_; clear n0_ n1_ n2_ n3_ n4_ n5_ n6_ n7_ n8_ n9_; clear hb hbox hg; have hnb65 := NB104_101.out; have hnc65 := NB101_104.out; have hnb66 := NB104_102.out; have hnc66 := NB102_104.out; have hcz67_0 : w64.cell? ⟨gb104, 0, none⟩ = some (.int .i64 0) := (blk_cell BK104.out 0).trans rfl; have hcz67_1 : w64.cell? ⟨gb104, 1, none⟩ = some (.int .i64 0) := (blk_cell BK104.out 1).trans rfl; have hcz67_2 : w64.cell? ⟨gb104, 2, none⟩ = some (.int .i64 0) := (blk_cell BK104.out 2).trans rfl; have hcz67_3 : w64.cell? ⟨gb104, 3, none⟩ = some (.int .i64 0) := (blk_cell BK104.out 3).trans rfl; have hcz67_4 : w64.cell? ⟨gb104, 4, none⟩ = some (.int .i64 0) := (blk_cell BK104.out 4).trans rfl; have hcz67_5 : w64.cell? ⟨gb104, 5, none⟩ = some (.int .i64 0) := (blk_cell BK104.out 5).trans rfl; have hcz67_6 : w64.cell? ⟨gb104, 6, none⟩ = some (.int .i64 0) := (blk_cell BK104.out 6).trans rfl; have hcz67_7 : w64.cell? ⟨gb104, 7, none⟩ = some (.int .i64 0) := (blk_cell BK104.out 7).trans rfl; have hcz67_8 : w64.cell? ⟨gb104, 8, none⟩ = some (.int .i64 0) := (blk_cell BK104.out 8).trans rfl; have hcz67_9 : w64.cell? ⟨gb104, 9, none⟩ = some (.int .i64 0) := (blk_cell BK104.out 9).trans rfl; have hcz67_10 : w64.cell? ⟨gb104, 10, none⟩ = some (.int .i64 0) := (blk_cell BK104.out 10).trans rfl; have hfz67_0 := blk_frozen BK104.out 0; have hfz67_1 := blk_frozen BK104.out 1; have hfz67_2 := blk_frozen BK104.out 2; have hfz67_3 := blk_frozen BK104.out 3; have hfz67_4 := blk_frozen BK104.out 4; have hfz67_5 := blk_frozen BK104.out 5; have hfz67_6 := blk_frozen BK104.out 6; have hfz67_7 := blk_frozen BK104.out 7; have hfz67_8 := blk_frozen BK104.out 8; have hfz67_9 := blk_frozen BK104.out 9; have hfz67_10 := blk_frozen BK104.out 10) | ((with_reducible refine gate_callee (f := 58) rfl ?_); refine goesL_ (some 38) rfl rfl Try.func58 (by kernel_rfl) rfl #[.agg #[.int .i64 ((rd_T46 l0_1 x32_2).f0.f0), .int .i64 ((rd_T46 l0_1 x32_2).f0.f1), .int .i64 ((rd_T46 l0_1 x32_2).f0.f2), .int .i64 ((rd_T46 l0_1 x32_2).f0.f3), .int .i64 ((rd_T46 l0_1 x32_2).f0.f4), .int .i64 ((rd_T46 l0_1 x32_2).f0.f5), .int .i64 ((rd_T46 l0_1 x32_2).f0.f6), .int .i64 ((rd_T46 l0_1 x32_2).f0.f7), .int .i64 ((rd_T46 l0_1 x32_2).f0.f8)]] rfl bE ?_; (with_reducible refine (impl_IsTable.calls ((rd_T46 l0_1 x32_2).f0.f0) ((rd_T46 l0_1 x32_2).f0.f1) ((rd_T46 l0_1 x32_2).f0.f2) ((rd_T46 l0_1 x32_2).f0.f3) ((rd_T46 l0_1 x32_2).f0.f4) ((rd_T46 l0_1 x32_2).f0.f5) ((rd_T46 l0_1 x32_2).f0.f6) ((rd_T46 l0_1 x32_2).f0.f7) ((rd_T46 l0_1 x32_2).f0.f8) false _ A20.out).mono ?_); rintro e w68 ⟨rfl, hb⟩; refine ⟨_, rfl, ?_⟩; have n0_ := am (blk_below (g := gb101) (o := .cells #[.int .i64 a0_0, .slice (some ad103) l0_1.length c0_1, .slice A0_2 l0_2.length c0_2] 35 (0, 0)) (by (with_reducible repeat (first | refine blk_drewN ?_ _ | refine blk_drew ?_ | refine blk_alloc ?_ _)); refine blk_far ?_ NB101_104.out _; (with_reducible repeat (first | refine blk_drewN ?_ _ | refine blk_drew ?_ | refine blk_alloc ?_ _)); refine blk_far ?_ NB101_104.out _; (with_reducible repeat (first | refine blk_drewN ?_ _ | refine blk_drew ?_ | refine blk_alloc ?_ _)); refine blk_far ?_ NB101_104.out _; (with_reducible repeat (first | refine blk_drewN ?_ _ | refine blk_drew ?_ | refine blk_alloc ?_ _)); refine blk_far ?_ NB101_104.out _; (with_reducible repeat (first | refine blk_drewN ?_ _ | refine blk_drew ?_ | refine blk_alloc ?_ _)); refine blk_far ?_ NB101_104.out _; (with_reducible repeat (first | refine blk_drewN ?_ _ | refine blk_drew ?_ | refine blk_alloc ?_ _)); refine blk_far ?_ NB101_104.out _; (with_reducible repeat (first | refine blk_drewN ?_ _ | refine blk_drew ?_ | refine blk_alloc ?_ _)); refine blk_far ?_ NB101_104.out _; (with_reducible repeat (first | refine blk_drewN ?_ _ | refine blk_drew ?_ | refine blk_alloc ?_ _)); refine blk_far ?_ NB101_104.out _; (with_reducible repeat (first | refine blk_drewN ?_ _ | refine blk_drew ?_ | refine blk_alloc ?_ _)); refine blk_far ?_ NB101_104.out _; (with_reducible repeat (first | refine blk_drewN ?_ _ | refine blk_drew ?_ | refine blk_alloc ?_ _)); refine blk_far ?_ NB101_104.out _; (with_reducible repeat (first | refine blk_drewN ?_ _ | refine blk_drew ?_ | refine blk_alloc ?_ _)); refine blk_far ?_ NB101_104.out _; (with_reducible repeat (first | refine blk_drewN ?_ _ | refine blk_drew ?_ | refine blk_alloc ?_ _)); exact BK101.out) hb); have n1_ := am (blk_below (g := gb102) (o := .cells #[.int .i64 x103000_2] 3 (0, 0)) (by (with_reducible repeat (first | refine blk_drewN ?_ _ | refine blk_drew ?_ | refine blk_alloc ?_ _)); refine blk_far ?_ NB102_104.out _; (with_reducible repeat (first | refine blk_drewN ?_ _ | refine blk_drew ?_ | refine blk_alloc ?_ _)); refine blk_far ?_ NB102_104.out _; (with_reducible repeat (first | refine blk_drewN ?_ _ | refine blk_drew ?_ | refine blk_alloc ?_ _)); refine blk_far ?_ NB102_104.out _; (with_reducible repeat (first | refine blk_drewN ?_ _ | refine blk_drew ?_ | refine blk_alloc ?_ _)); refine blk_far ?_ NB102_104.out _; (with_reducible repeat (first | refine blk_drewN ?_ _ | refine blk_drew ?_ | refine blk_alloc ?_ _)); refine blk_far ?_ NB102_104.out _; (with_reducible repeat (first | refine blk_drewN ?_ _ | refine blk_drew ?_ | refine blk_alloc ?_ _)); refine blk_far ?_ NB102_104.out _; (with_reducible repeat (first | refine blk_drewN ?_ _ | refine blk_drew ?_ | refine blk_alloc ?_ _)); refine blk_far ?_ NB102_104.out _; (with_reducible repeat (first | refine blk_drewN ?_ _ | refine blk_drew ?_ | refine blk_alloc ?_ _)); refine blk_far ?_ NB102_104.out _; (with_reducible repeat (first | refine blk_drewN ?_ _ | refine blk_drew ?_ | refine blk_alloc ?_ _)); refine blk_far ?_ NB102_104.out _; (with_reducible repeat (first | refine blk_drewN ?_ _ | refine blk_drew ?_ | refine blk_alloc ?_ _)); refine blk_far ?_ NB102_104.out _; (with_reducible repeat (first | refine blk_drewN ?_ _ | refine blk_drew ?_ | refine blk_alloc ?_ _)); refine blk_far ?_ NB102_104.out _; (with_reducible repeat (first | refine blk_drewN ?_ _ | refine blk_drew ?_ | refine blk_alloc ?_ _)); exact BK102.out) hb); have n2_ := am (blk_below (g := gb104) (o := .cells #[.int .i64 ((rd_T46 l0_1 x32_2).f0.f0), .int .i64 ((rd_T46 l0_1 x32_2).f0.f1), .int .i64 ((rd_T46 l0_1 x32_2).f0.f2), .int .i64 ((rd_T46 l0_1 x32_2).f0.f3), .int .i64 ((rd_T46 l0_1 x32_2).f0.f4), .int .i64 ((rd_T46 l0_1 x32_2).f0.f5), .int .i64 ((rd_T46 l0_1 x32_2).f0.f6), .int .i64 ((rd_T46 l0_1 x32_2).f0.f7), .int .i64 ((rd_T46 l0_1 x32_2).f0.f8), .int .i64 ((rd_T46 l0_1 x32_2).f1), .int .i64 ((rd_T46 l0_1 x32_2).f2)] 46 (0, 0)) (by (with_reducible repeat (first | refine blk_drewN ?_ _ | refine blk_drew ?_ | refine blk_alloc ?_ _)); refine blk_put (cs := #[.int .i64 ((rd_T46 l0_1 x32_2).f0.f0), .int .i64 ((rd_T46 l0_1 x32_2).f0.f1), .int .i64 ((rd_T46 l0_1 x32_2).f0.f2), .int .i64 ((rd_T46 l0_1 x32_2).f0.f3), .int .i64 ((rd_T46 l0_1 x32_2).f0.f4), .int .i64 ((rd_T46 l0_1 x32_2).f0.f5), .int .i64 ((rd_T46 l0_1 x32_2).f0.f6), .int .i64 ((rd_T46 l0_1 x32_2).f0.f7), .int .i64 ((rd_T46 l0_1 x32_2).f0.f8), .int .i64 ((rd_T46 l0_1 x32_2).f1), .int .i64 0]) ?_ 10 _ rfl; (with_reducible repeat (first | refine blk_drewN ?_ _ | refine blk_drew ?_ | refine blk_alloc ?_ _)); refine blk_put (cs := #[.int .i64 ((rd_T46 l0_1 x32_2).f0.f0), .int .i64 ((rd_T46 l0_1 x32_2).f0.f1), .int .i64 ((rd_T46 l0_1 x32_2).f0.f2), .int .i64 ((rd_T46 l0_1 x32_2).f0.f3), .int .i64 ((rd_T46 l0_1 x32_2).f0.f4), .int .i64 ((rd_T46 l0_1 x32_2).f0.f5), .int .i64 ((rd_T46 l0_1 x32_2).f0.f6), .int .i64 ((rd_T46 l0_1 x32_2).f0.f7), .int .i64 ((rd_T46 l0_1 x32_2).f0.f8), .int .i64 0, .int .i64 0]) ?_ 9 _ rfl; (with_reducible repeat (first | refine blk_drewN ?_ _ | refine blk_drew ?_ | refine blk_alloc ?_ _)); refine blk_put (cs := #[.int .i64 ((rd_T46 l0_1 x32_2).f0.f0), .int .i64 ((rd_T46 l0_1 x32_2).f0.f1), .int .i64 ((rd_T46 l0_1 x32_2).f0.f2), .int .i64 ((rd_T46 l0_1 x32_2).f0.f3), .int .i64 ((rd_T46 l0_1 x32_2).f0.f4), .int .i64 ((rd_T46 l0_1 x32_2).f0.f5), .int .i64 ((rd_T46 l0_1 x32_2).f0.f6), .int .i64 ((rd_T46 l0_1 x32_2).f0.f7), .int .i64 0, .int .i64 0, .int .i64 0]) ?_ 8 _ rfl; (with_reducible repeat (first | refine blk_drewN ?_ _ | refine blk_drew ?_ | refine blk_alloc ?_ _)); refine blk_put (cs := #[.int .i64 ((rd_T46 l0_1 x32_2).f0.f0), .int .i64 ((rd_T46 l0_1 x32_2).f0.f1), .int .i64 ((rd_T46 l0_1 x32_2).f0.f2), .int .i64 ((rd_T46 l0_1 x32_2).f0.f3), .int .i64 ((rd_T46 l0_1 x32_2).f0.f4), .int .i64 ((rd_T46 l0_1 x32_2).f0.f5), .int .i64 ((rd_T46 l0_1 x32_2).f0.f6), .int .i64 0, .int .i64 0, .int .i64 0, .int .i64 0]) ?_ 7 _ rfl; (with_reducible repeat (first | refine blk_drewN ?_ _ | refine blk_drew ?_ | refine blk_alloc ?_ _)); refine blk_put (cs := #[.int .i64 ((rd_T46 l0_1 x32_2).f0.f0), .int .i64 ((rd_T46 l0_1 x32_2).f0.f1), .int .i64 ((rd_T46 l0_1 x32_2).f0.f2), .int .i64 ((rd_T46 l0_1 x32_2).f0.f3), .int .i64 ((rd_T46 l0_1 x32_2).f0.f4), .int .i64 ((rd_T46 l0_1 x32_2).f0.f5), .int .i64 0, .int .i64 0, .int .i64 0, .int .i64 0, .int .i64 0]) ?_ 6 _ rfl; (with_reducible repeat (first | refine blk_drewN ?_ _ | refine blk_drew ?_ | refine blk_alloc ?_ _)); refine blk_put (cs := #[.int .i64 ((rd_T46 l0_1 x32_2).f0.f0), .int .i64 ((rd_T46 l0_1 x32_2).f0.f1), .int .i64 ((rd_T46 l0_1 x32_2).f0.f2), .int .i64 ((rd_T46 l0_1 x32_2).f0.f3), .int .i64 ((rd_T46 l0_1 x32_2).f0.f4), .int .i64 0, .int .i64 0, .int .i64 0, .int .i64 0, .int .i64 0, .int .i64 0]) ?_ 5 _ rfl; (with_reducible repeat (first | refine blk_drewN ?_ _ | refine blk_drew ?_ | refine blk_alloc ?_ _)); refine blk_put (cs := #[.int .i64 ((rd_T46 l0_1 x32_2).f0.f0), .int .i64 ((rd_T46 l0_1 x32_2).f0.f1), .int .i64 ((rd_T46 l0_1 x32_2).f0.f2), .int .i64 ((rd_T46 l0_1 x32_2).f0.f3), .int .i64 0, .int .i64 0, .int .i64 0, .int .i64 0, .int .i64 0, .int .i64 0, .int .i64 0]) ?_ 4 _ rfl; (with_reducible repeat (first | refine blk_drewN ?_ _ | refine blk_drew ?_ | refine blk_alloc ?_ _)); refine blk_put (cs := #[.int .i64 ((rd_T46 l0_1 x32_2).f0.f0), .int .i64 ((rd_T46 l0_1 x32_2).f0.f1), .int .i64 ((rd_T46 l0_1 x32_2).f0.f2), .int .i64 0, .int .i64 0, .int .i64 0, .int .i64 0, .int .i64 0, .int .i64 0, .int .i64 0, .int .i64 0]) ?_ 3 _ rfl; (with_reducible repeat (first | refine blk_drewN ?_ _ | refine blk_drew ?_ | refine blk_alloc ?_ _)); refine blk_put (cs := #[.int .i64 ((rd_T46 l0_1 x32_2).f0.f0), .int .i64 ((rd_T46 l0_1 x32_2).f0.f1), .int .i64 0, .int .i64 0, .int .i64 0, .int .i64 0, .int .i64 0, .int .i64 0, .int .i64 0, .int .i64 0, .int .i64 0]) ?_ 2 _ rfl; (with_reducible repeat (first | refine blk_drewN ?_ _ | refine blk_drew ?_ | refine blk_alloc ?_ _)); refine blk_put (cs := #[.int .i64 ((rd_T46 l0_1 x32_2).f0.f0), .int .i64 0, .int .i64 0, .int .i64 0, .int .i64 0, .int .i64 0, .int .i64 0, .int .i64 0, .int .i64 0, .int .i64 0, .int .i64 0]) ?_ 1 _ rfl; (with_reducible repeat (first | refine blk_drewN ?_ _ | refine blk_drew ?_ | refine blk_alloc ?_ _)); refine blk_put (cs := #[.int .i64 0, .int .i64 0, .int .i64 0, .int .i64 0, .int .i64 0, .int .i64 0, .int .i64 0, .int .i64 0, .int .i64 0, .int .i64 0, .int .i64 0]) ?_ 0 _ rfl; (with_reducible repeat (first | refine blk_drewN ?_ _ | refine blk_drew ?_ | refine blk_alloc ?_ _)); exact BK104.out) hb); have n3_ := am (below_step (bB HB.out) hb); clear BK101; clear BK102; clear BK104; clear HB; have BK101 := n0_; have BK102 := n1_; have BK104 := n2_; have HB := n3_; clear n0_ n1_ n2_ n3_; (try clear hb); (try clear hb2); (try clear hk); (try clear hi)))
          go_ret
          exact ⟨by first | rfl | (simp [errW_none, errW_some] <;> rfl) | (simp [*, errW_none, errW_some] <;> rfl), bB HB.out⟩
        ·rw [if_neg c19] at H
         exact absurd H (by simp)
       ·rw [if_neg c18] at H
        exact absurd H (by simp)
      ·rw [if_neg c17] at H
       have c17b0 : decide (x32_2 < (l0_1.length : Int)) = false := decide_eq_false c17
       clear c17
       replace H := Option.bind_eq_some_iff.mp H
       obtain ⟨t106, A690, H⟩ := H
       replace H : (some (!t106)) = some r := H
       have A69 := am A690; clear A690
       obtain rfl := Option.some.inj H
       have hnb70 := NB101_102.out; have hnc70 := NB102_101.out
       have hcz71_0 : wr.cell? ⟨gb101, 0, none⟩ = some (.int .i64 a0_0) := (blk_cell BK101.out 0).trans rfl
       have hcz71_1 : wr.cell? ⟨gb101, 1, none⟩ = some (.slice A0_1 l0_1.length c0_1) := (blk_cell BK101.out 1).trans rfl
       have hcz71_2 : wr.cell? ⟨gb101, 2, none⟩ = some (.slice A0_2 l0_2.length c0_2) := (blk_cell BK101.out 2).trans rfl
       have hfz71_0 := blk_frozen BK101.out 0; have hfz71_1 := blk_frozen BK101.out 1; have hfz71_2 := blk_frozen BK101.out 2
       go_wp2_with (first | ((with_reducible refine gate_callee (f := 59) rfl ?_); refine goesL_ (some 68) rfl rfl Try.func59 (by kernel_rfl) rfl #[.slice A0_2 l0_2.length c0_2, .func (.func 60) #[] #[.pointer (some ⟨gb102, 0, none⟩)]] rfl bE ?_; (with_reducible refine (slices_ContainsFunc_int_int.calls _ _ l0_2 x103000_2 t106 _ ?side1 ?side2 A69.out).mono ?_); (case side1 => exact bD ((Kd.C_below HR0_2.out HB.out))); (case side2 => exact HC0_2.out); rintro e w' ⟨rfl, ⟨nd, rfl⟩⟩; refine ⟨_, rfl, ?_⟩))
       go_ret
       exact ⟨by first | rfl | (simp [errW_none, errW_some] <;> rfl) | (simp [*, errW_none, errW_some] <;> rfl), bB HB.out⟩

/-! ### impl_Circuit_put: function 69 -/
theorem R_append_stepD {P : Program} {ops : Array Oper} {o : Oper} {a : Act} {Kc : Act → World → Prop} {Q : Exit → Act → World → Prop} {E : Prop} {α : Type} (d : Kd α) {w0 W : World} (base : Nat) (hg : o.guard = none) (s x : Operand) (t e : TypeId) (z : Value) (bytes : Nat)
    (ho : o.op = .call { callee := .builtin .append, args := #[s, x], argTypes := #[t, t] })
    (ht : P.underlying t = some (.slice e)) (hinfo : (P.info? e).map (fun i => (i.zero, i.size, i.bytes)) = some (some z, d.sz, bytes)) (hz : z.cells.size = d.sz) (hs0 : 0 < d.sz) (hb0 : 0 < bytes)
    (v : Value) (xs : List α) (p : α) (cs : List Value) (ok okp : Nat → Prop) (hs : a.eval s = v) (hx : a.eval x = .slice (some ⟨W.heap.size, 0, none⟩) 1 1) (hp : d.M W.drew base okp p cs) (hokp : ∀ k, okp k → ok k ∧ some k ≠ v.ownBlock) (hfresh : ∀ k, W.heap.size ≤ k → ok k)
    (HO : d.R e W.drew base ok v xs) (HB : Below base w0 W.drew) (hbase : base ≤ W.heap.size) (hl : (xs.length + 1) * bytes ≤ 140737488355328)
    (h : ∀ v1 w1, d.R e w1 base ok v1 (xs ++ [p]) → Below base w0 w1 → W.drew.grownBy w1 v.ownBlock → (v1.ownBlock = v.ownBlock ∨ ∃ b, v1.ownBlock = some b ∧ W.heap.size ≤ b) → Kc (a.put o.dst v1) w1) :
    if Region.wanted o (yielded ops a.tmps) = true then Oper.wp P o a ((W.alloc (.cells cs.toArray e)).drew) Kc Q else E := by
  have hw : Region.wanted o (yielded ops a.tmps) = true := by simp [Region.wanted, hg]
  rw [if_pos hw]
  have := Kd.R_append_step (P := P) (ops := ops) (o := o) (a := a) (Kc := Kc) (Q := Q) d (w0 := w0) (W := W.drew) base hw s x t e z bytes ho ht hinfo hz hs0 hb0 v xs p cs ok okp hs hx hp hokp hfresh HO HB hbase hl h
  rw [if_pos hw] at this
  exact this
theorem put_info : (Try.prog.info? 46).map (fun i => (i.zero, i.size, i.bytes)) = some (some (.agg #[.int .i64 0, .int .i64 0, .int .i64 0, .int .i64 0, .int .i64 0, .int .i64 0, .int .i64 0, .int .i64 0, .int .i64 0, .int .i64 0, .int .i64 0]), 11, 88) := by kernel_rfl
theorem set_drewN_ (w : World) (p : Addr) (v : Value) (n : Nat) : (w.setCell p v).drewN n = (w.drewN n).setCell p v := rfl
set_option maxHeartbeats 8000000 in
set_option maxRecDepth 100000 in
/-- A gate is added to a circuit that lies in memory: its row of gates grows by one and is stored back, and its line is told. -/
theorem impl_Circuit_put.row (g : Nat) (I : Int) (v vO : Value) (gs ys : List S46) (t0 t1 t2 t3 t4 t5 t6 t7 t8 a b : Int) (base : Nat) (ok : Nat → Prop) (w0 w : World) (hy : ys = gs ++ [(⟨(⟨t0, t1, t2, t3, t4, t5, t6, t7, t8⟩ : S23), a, b⟩ : S46)]) (hbox : w.heap[g]? = some (.cells #[.int .i64 I, v, vO] 35 (0, 0))) (hfresh : ∀ k, w.heap.size ≤ k → ok k) (hR : Kd.R k46 46 w base ok v gs)
    (hB : Below base w0 w) (hbase : base ≤ w.heap.size) (hl : (gs.length + 1) * 88 ≤ 140737488355328) :
    Calls Try.prog 69 #[.pointer (some ⟨g, 0, none⟩), .agg #[.int .i64 t0, .int .i64 t1, .int .i64 t2, .int .i64 t3, .int .i64 t4, .int .i64 t5, .int .i64 t6, .int .i64 t7, .int .i64 t8], .int .i64 a, .int .i64 b] w fun e w' => ∃ (v1 : Value) (w1 : World), e = .returned (.int .i64 (wrap64 (wrap64 (2 + I) + (ys.length : Int)))) ∧ w' = w1.setCell ⟨g, 1, none⟩ v1 ∧
      Kd.R k46 46 w1 base ok v1 ys ∧ Below base w0 w1 ∧ w.grownBy w1 v.ownBlock ∧ (v1.ownBlock = v.ownBlock ∨ ∃ b, v1.ownBlock = some b ∧ w.heap.size ≤ b) := by
  obtain ⟨A, c, ev⟩ := Kd.R_slice hR
  subst ev
  have hu35 := Try.underlying35
  have hu23 := Try.underlying23
  have hu46 := Try.underlying46
  have HB := Aside0.mk hB
  have HR := Aside0.mk hR
  have BK := Aside0.mk hbox
  have HX := Aside0.mk (show base ≤ w.heap.size ∧ (gs.length + 1) * 88 ≤ 140737488355328 from ⟨hbase, hl⟩)
  have HF := Aside0.mk hfresh
  have HNE := Aside0.mk (Kd.R_ne hR hbox (by decide))
  have HGE := Aside0.mk hy
  clear hR hbox hbase hl hB hfresh hy
  go_enter Try.func69, Try.ntmps69
  have hg1 : (w.alloc (.cells #[.int .i64 t0, .int .i64 t1, .int .i64 t2, .int .i64 t3, .int .i64 t4, .int .i64 t5, .int .i64 t6, .int .i64 t7, .int .i64 t8] 23)).heap[g]? = some (.cells #[.int .i64 I, .slice A gs.length c, vO] 35 (0, 0)) := blk_alloc BK.out _
  have hg2 := blk_new w (.cells #[.int .i64 t0, .int .i64 t1, .int .i64 t2, .int .i64 t3, .int .i64 t4, .int .i64 t5, .int .i64 t6, .int .i64 t7, .int .i64 t8] 23)
  have hz1 : (w.alloc (.cells #[.int .i64 t0, .int .i64 t1, .int .i64 t2, .int .i64 t3, .int .i64 t4, .int .i64 t5, .int .i64 t6, .int .i64 t7, .int .i64 t8] 23)).heap.size = w.heap.size + 1 := Array.size_push _
  have HR1 := Aside0.mk (Kd.R_alloc HR.out (.cells #[.int .i64 t0, .int .i64 t1, .int .i64 t2, .int .i64 t3, .int .i64 t4, .int .i64 t5, .int .i64 t6, .int .i64 t7, .int .i64 t8] 23))
  have HB1 := Aside0.mk (show Below base w0 (w.alloc (.cells #[.int .i64 t0, .int .i64 t1, .int .i64 t2, .int .i64 t3, .int .i64 t4, .int .i64 t5, .int .i64 t6, .int .i64 t7, .int .i64 t8] 23)) from HB.out.alloc HX.out.1 _)
  have HK1 := Aside0.mk (show KeepBut w (w.alloc (.cells #[.int .i64 t0, .int .i64 t1, .int .i64 t2, .int .i64 t3, .int .i64 t4, .int .i64 t5, .int .i64 t6, .int .i64 t7, .int .i64 t8] 23)) g (Value.slice A gs.length c).ownBlock from ⟨by rw [hz1]; omega, fun i hi _ _ => by show (w.heap.push _)[i]? = _; rw [Array.getElem?_push]; exact if_neg (by omega)⟩)
  have HO1 := Aside0.mk (show (w.alloc (.cells #[.int .i64 t0, .int .i64 t1, .int .i64 t2, .int .i64 t3, .int .i64 t4, .int .i64 t5, .int .i64 t6, .int .i64 t7, .int .i64 t8] 23)).os = w.os ∧ (w.alloc (.cells #[.int .i64 t0, .int .i64 t1, .int .i64 t2, .int .i64 t3, .int .i64 t4, .int .i64 t5, .int .i64 t6, .int .i64 t7, .int .i64 t8] 23)).tape = w.tape ∧ (w.alloc (.cells #[.int .i64 t0, .int .i64 t1, .int .i64 t2, .int .i64 t3, .int .i64 t4, .int .i64 t5, .int .i64 t6, .int .i64 t7, .int .i64 t8] 23)).output = w.output from ⟨rfl, rfl, rfl⟩)
  have HN1 := Aside0.mk (show ∀ i, i < w.heap.size → (w.alloc (.cells #[.int .i64 t0, .int .i64 t1, .int .i64 t2, .int .i64 t3, .int .i64 t4, .int .i64 t5, .int .i64 t6, .int .i64 t7, .int .i64 t8] 23)).heap[i]? = w.heap[i]? from fun i hi => by show (w.heap.push _)[i]? = _; rw [Array.getElem?_push]; exact if_neg (by omega))
  go_wp2
  obtain ⟨w1, hw1⟩ : ∃ w1, w1 = w.alloc (.cells #[.int .i64 t0, .int .i64 t1, .int .i64 t2, .int .i64 t3, .int .i64 t4, .int .i64 t5, .int .i64 t6, .int .i64 t7, .int .i64 t8] 23) := ⟨_, rfl⟩
  rw [← hw1] at hg1 hg2 hz1 HR1 HB1 HK1 HO1 HN1 ⊢
  clear hw1
  have HG1 := Aside0.mk hg1
  have HZ1 := Aside0.mk hz1
  have hs0 : w1.cell? ⟨g, 0, none⟩ = some (.int .i64 I) := (blk_cell hg1 0).trans rfl
  have hs1 : w1.cell? ⟨g, 1, none⟩ = some (.slice A gs.length c) := (blk_cell hg1 1).trans rfl
  have hs2 : w1.cell? ⟨g, 2, none⟩ = some vO := (blk_cell hg1 2).trans rfl
  have ht0 : w1.cell? ⟨w.heap.size, 0, none⟩ = some (.int .i64 t0) := (blk_cell hg2 0).trans rfl
  have ht1 : w1.cell? ⟨w.heap.size, 1, none⟩ = some (.int .i64 t1) := (blk_cell hg2 1).trans rfl
  have ht2 : w1.cell? ⟨w.heap.size, 2, none⟩ = some (.int .i64 t2) := (blk_cell hg2 2).trans rfl
  have ht3 : w1.cell? ⟨w.heap.size, 3, none⟩ = some (.int .i64 t3) := (blk_cell hg2 3).trans rfl
  have ht4 : w1.cell? ⟨w.heap.size, 4, none⟩ = some (.int .i64 t4) := (blk_cell hg2 4).trans rfl
  have ht5 : w1.cell? ⟨w.heap.size, 5, none⟩ = some (.int .i64 t5) := (blk_cell hg2 5).trans rfl
  have ht6 : w1.cell? ⟨w.heap.size, 6, none⟩ = some (.int .i64 t6) := (blk_cell hg2 6).trans rfl
  have ht7 : w1.cell? ⟨w.heap.size, 7, none⟩ = some (.int .i64 t7) := (blk_cell hg2 7).trans rfl
  have ht8 : w1.cell? ⟨w.heap.size, 8, none⟩ = some (.int .i64 t8) := (blk_cell hg2 8).trans rfl
  have hlt1 : g < w1.heap.size := blk_lt hg1
  have hlt2 : w.heap.size < w1.heap.size := blk_lt hg2
  have hne1 : g ≠ w1.heap.size := Nat.ne_of_lt hlt1
  have hne2 : w.heap.size ≠ w1.heap.size := Nat.ne_of_lt hlt2
  clear hg1 hg2 hz1
  go_region_law (refine R_append_stepD k46 (w0 := w0) base rfl (.tmp 13) (.tmp 18) 33 46 (.agg #[.int .i64 0, .int .i64 0, .int .i64 0, .int .i64 0, .int .i64 0, .int .i64 0, .int .i64 0, .int .i64 0, .int .i64 0, .int .i64 0, .int .i64 0]) 88 rfl Try.underlying33 put_info rfl (by decide) (by decide) (.slice A gs.length c) gs (⟨(⟨t0, t1, t2, t3, t4, t5, t6, t7, t8⟩ : S23), a, b⟩ : S46) [.int .i64 t0, .int .i64 t1, .int .i64 t2, .int .i64 t3, .int .i64 t4, .int .i64 t5, .int .i64 t6, .int .i64 t7, .int .i64 t8, .int .i64 a, .int .i64 b] ok (fun k => ok k ∧ some k ≠ (Value.slice A gs.length c).ownBlock) rfl rfl (k46_mkM _ _ _ _) (fun _ hk => hk) ?c1 ?c2 ?c3 ?c4 ?c5 ?_; (case c1 => exact fun k hk => HF.out k (by have := HZ1.out; omega)); (case c2 => exact Kd.R_drew HR1.out); (case c3 => exact below_drew1 HB1.out); (case c4 => have := HX.out.1; have := HZ1.out; omega); (case c5 => exact HX.out.2); intro v2 w2 hR2 hB2 hG2 hA2; rw [← HGE.out] at hR2; obtain ⟨A2, c2, e2⟩ := Kd.R_slice hR2; subst e2; have hb2 := blk_grown (blk_drew HG1.out) hG2 HNE.out; have hs5 : w2.cell? ⟨g, 1, none⟩ = some (.slice A gs.length c) := (blk_cell hb2 1).trans rfl; have hf5 := blk_frozen hb2 1; have HR2 := Aside0.mk hR2; have HB2 := Aside0.mk hB2; have HK2 := Aside0.mk hG2; have HG2 := Aside0.mk hb2; have HA2 := Aside0.mk hA2; clear hR2 hB2 hG2 hb2 hA2)
  all_goals
    have HG3 := Aside0.mk (blk_put HG2.out 1 (.slice A2 ys.length c2) (rfl : _ = #[.int .i64 I, .slice A2 ys.length c2, vO]))
    have HGR := Aside0.mk (show w.grownBy w2 (Value.slice A gs.length c).ownBlock from ⟨HK2.out.os.trans HO1.out.1, HK2.out.tape.trans HO1.out.2.1, HK2.out.output.trans HO1.out.2.2, Nat.le_trans HK1.out.1 HK2.out.size, fun i hi h2 => by
      have h1 := HK2.out.block i (by have := HK1.out.1; show i < w1.heap.size; omega) h2
      refine h1.trans ?_
      exact HN1.out i hi⟩)
    have HAR := Aside0.mk (show (Value.slice A2 ys.length c2).ownBlock = (Value.slice A gs.length c).ownBlock ∨ ∃ b, (Value.slice A2 ys.length c2).ownBlock = some b ∧ w.heap.size ≤ b from HA2.out.imp id fun ⟨b, h1, h2⟩ => ⟨b, h1, Nat.le_trans HK1.out.1 h2⟩)
    obtain ⟨w3, hw3⟩ : ∃ w3, w3 = w2.setCell ⟨g, 1, none⟩ (.slice A2 ys.length c2) := ⟨_, rfl⟩
    rw [← hw3] at HG3 ⊢
    have HW3 := Aside0.mk hw3
    clear hw3
    have hu0 : w3.cell? ⟨g, 0, none⟩ = some (.int .i64 I) := (blk_cell HG3.out 0).trans rfl
    have hu1 : w3.cell? ⟨g, 1, none⟩ = some (.slice A2 ys.length c2) := (blk_cell HG3.out 1).trans rfl
    try go_wp2
    repeat (go_quiet (fail); try go_wp2)
    go_ret
    obtain ⟨hw3⟩ := HW3
    subst hw3
    exact ⟨_, _, rfl, set_drewN_ _ _ _ _, Kd.R_drewN HR2.out _, pw_below_drewN HB2.out _, ⟨HGR.out.os, HGR.out.tape, HGR.out.output, HGR.out.size, HGR.out.block⟩, HAR.out⟩

end Go.Proofs.Ytaopbkbjfmfcdaa.P
