/- The order of the one-word floats of floating numbers is the order of these; no condition is set on any claim. -/
import Derived.Test.YtffhddibgfaopaaZSnSng1a
import Derived.Test.YtffhddibgfaopaaZSnSng1b
import Derived.Test.YtffhddibgfaopaaZSnSng1c
import Derived.Test.YtffhddibgfaopaaZSnTern
namespace Go.Proofs.Ytffhddibgfaopaa.P
open Go Go.Proofs.Ytffhddibgfaopaa.Tern
set_option linter.unusedVariables false
theorem cmp3_lt {a b : Int} (h : a < b) : cmp3 a b = .lt := by unfold cmp3; rw [if_pos h]
theorem cmp3_gt {a b : Int} (h : b < a) : cmp3 a b = .gt := by unfold cmp3; rw [if_neg (by omega), if_neg (by omega)]
theorem cmp3_eq (a : Int) : cmp3 a a = .eq := by unfold cmp3; rw [if_neg (by omega), if_pos rfl]
/-- What is told of the float behind one of 64 bits. -/
def Told (a : Nat) (z : Int) : Prop := ∃ r, floatToFloatBits .f64 a .f32 = some r ∧ rank32 r = some z ∧ rank32 (Op.negFloat .f32 r) = some (-z)
theorem told_rk {a : Nat} {z : Int} (h : rk a = some z) : Told a z := by
  unfold rk at h
  obtain ⟨r, h1, h⟩ := Option.bind_eq_some_iff.mp h
  obtain ⟨y, h2, h⟩ := Option.bind_eq_some_iff.mp h
  by_cases c : rank32 (Op.negFloat .f32 r) = some (-y)
  · rw [if_pos c] at h
    obtain rfl := Option.some.inj h
    exact ⟨r, h1, h2, c⟩
  · rw [if_neg c] at h; cases h
theorem upsR_at : ∀ (n j x : Nat) (l : List Int), upsR n x = some l → l.length = n + 1 ∧ (j ≤ n → ∃ a, mulN j x = some a ∧ Told a (l.getD j 0))
  | 0, j, x, l, h => by
    unfold upsR at h
    obtain ⟨r, h1, rfl⟩ := Option.map_eq_some_iff.mp h
    refine ⟨rfl, fun hj => ?_⟩
    obtain rfl : j = 0 := by omega
    exact ⟨x, rfl, told_rk h1⟩
  | n + 1, j, x, l, h => by
    unfold upsR at h
    obtain ⟨r, h1, h⟩ := Option.bind_eq_some_iff.mp h
    obtain ⟨y, h2, h⟩ := Option.bind_eq_some_iff.mp h
    obtain ⟨m, h3, rfl⟩ := Option.map_eq_some_iff.mp h
    cases j with
    | zero => exact ⟨by rw [List.length_cons, (upsR_at n 0 y m h3).1], fun _ => ⟨x, rfl, told_rk h1⟩⟩
    | succ j =>
      obtain ⟨q1, q2⟩ := upsR_at n j y m h3
      refine ⟨by rw [List.length_cons, q1], fun hj => ?_⟩
      obtain ⟨a, h4, h5⟩ := q2 (by omega)
      exact ⟨a, by rw [mulN, h2]; exact h4, by simpa using h5⟩
theorem downsR_at : ∀ (n j x : Nat) (l : List Int), downsR n x = some l → l.length = n + 1 ∧ (j ≤ n → ∃ a, divN j x = some a ∧ Told a (l.getD j 0))
  | 0, j, x, l, h => by
    unfold downsR at h
    obtain ⟨r, h1, rfl⟩ := Option.map_eq_some_iff.mp h
    refine ⟨rfl, fun hj => ?_⟩
    obtain rfl : j = 0 := by omega
    exact ⟨x, rfl, told_rk h1⟩
  | n + 1, j, x, l, h => by
    unfold downsR at h
    obtain ⟨r, h1, h⟩ := Option.bind_eq_some_iff.mp h
    obtain ⟨y, h2, h⟩ := Option.bind_eq_some_iff.mp h
    obtain ⟨m, h3, rfl⟩ := Option.map_eq_some_iff.mp h
    cases j with
    | zero => exact ⟨by rw [List.length_cons, (downsR_at n 0 y m h3).1], fun _ => ⟨x, rfl, told_rk h1⟩⟩
    | succ j =>
      obtain ⟨q1, q2⟩ := downsR_at n j y m h3
      refine ⟨by rw [List.length_cons, q1], fun hj => ?_⟩
      obtain ⟨a, h4, h5⟩ := q2 (by omega)
      exact ⟨a, by rw [divN, h2]; exact h4, by simpa using h5⟩
theorem ltAll_at : ∀ (l m : List Int) (i : Nat), ltAll l m = true → i < l.length → l.getD i 0 < m.getD i 0
  | [], m, i, h, hi => by simp at hi
  | a :: l, [], i, h, hi => by cases h
  | a :: l, b :: m, i, h, hi => by
    unfold ltAll at h
    rw [Bool.and_eq_true, decide_eq_true_eq] at h
    cases i with
    | zero => simpa using h.1
    | succ i => simpa using ltAll_at l m i h.2 (by simpa using hi)
/-- What the number v at the power e stands for. -/
def RK (v e : Int) : Int := match ranks v with
  | some q => if 0 ≤ e then q.1.getD e.toNat 0 else q.2.getD (-e).toNat 0
  | none => 0
theorem ranks_len {v : Int} {q : List Int × List Int} (h : ranks v = some q) : q.1.length = 21 ∧ q.2.length = 21 := by
  unfold ranks at h
  obtain ⟨u, h1, h⟩ := Option.bind_eq_some_iff.mp h
  obtain ⟨d, h2, rfl⟩ := Option.map_eq_some_iff.mp h
  exact ⟨(upsR_at 20 0 _ _ h1).1, (downsR_at 20 0 _ _ h2).1⟩
theorem ranks_at {v e : Int} {q : List Int × List Int} (h : ranks v = some q) (h0 : -20 ≤ e) (h1 : e ≤ 20) :
    ∃ a b, mulN e.toNat (floatOfInt .f64 v) = some a ∧ divN (-e).toNat a = some b ∧ Told b (RK v e) := by
  have hr : RK v e = if 0 ≤ e then q.1.getD e.toNat 0 else q.2.getD (-e).toNat 0 := by unfold RK; rw [h]
  unfold ranks at h
  obtain ⟨u, g1, h⟩ := Option.bind_eq_some_iff.mp h
  obtain ⟨d, g2, rfl⟩ := Option.map_eq_some_iff.mp h
  rw [hr]
  by_cases c : 0 ≤ e
  · obtain ⟨a, k1, k2⟩ := (upsR_at 20 e.toNat _ _ g1).2 (by omega)
    refine ⟨a, a, k1, by rw [show (-e).toNat = 0 by omega]; rfl, ?_⟩
    rw [if_pos c]; exact k2
  · obtain ⟨a, k1, k2⟩ := (downsR_at 20 (-e).toNat _ _ g2).2 (by omega)
    refine ⟨_, a, by rw [show e.toNat = 0 by omega]; rfl, k1, ?_⟩
    rw [if_neg c]; exact k2
theorem chain_at : ∀ (n : Nat) (v0 : Int) (p : List Int × List Int), chain n v0 p = true → ranks (v0 - 1) = some p → ∀ v, v0 ≤ v → v < v0 + n →
    ∃ p q, ranks (v - 1) = some p ∧ ranks v = some q ∧ ltAll p.1 q.1 = true ∧ ltAll p.2 q.2 = true ∧ ranks (-v) = some (negL q)
  | 0, v0, p, h, hp, v, h0, h1 => by omega
  | n + 1, v0, p, h, hp, v, h0, h1 => by
    unfold chain at h
    cases hq : ranks v0 with
    | none => rw [hq] at h; cases h
    | some q =>
      rw [hq] at h
      simp only [Bool.and_eq_true, decide_eq_true_eq] at h
      by_cases e : v = v0
      · subst e; exact ⟨p, q, hp, hq, h.1.1.1, h.1.1.2, h.1.2⟩
      · exact chain_at n (v0 + 1) q h.2 (by rw [show v0 + 1 - 1 = v0 by omega]; exact hq) v (by omega) (by omega)
theorem part_at (n : Nat) (v0 v : Int) (h : part n v0 = true) (h0 : v0 ≤ v) (h1 : v < v0 + n) :
    ∃ p q, ranks (v - 1) = some p ∧ ranks v = some q ∧ ltAll p.1 q.1 = true ∧ ltAll p.2 q.2 = true ∧ ranks (-v) = some (negL q) := by
  unfold part at h
  cases hp : ranks (v0 - 1) with
  | none => rw [hp] at h; cases h
  | some p => rw [hp] at h; exact chain_at n v0 p h hp v h0 h1
theorem step_at (v : Int) (h0 : 122 ≤ v) (h1 : v ≤ 364) : ∃ p q, ranks (v - 1) = some p ∧ ranks v = some q ∧ ltAll p.1 q.1 = true ∧ ltAll p.2 q.2 = true ∧ ranks (-v) = some (negL q) := by
  rcases (show (122 ≤ v ∧ v < 149) ∨ (149 ≤ v ∧ v < 176) ∨ (176 ≤ v ∧ v < 203) ∨ (203 ≤ v ∧ v < 230) ∨ (230 ≤ v ∧ v < 257) ∨ (257 ≤ v ∧ v < 284) ∨ (284 ≤ v ∧ v < 311) ∨ (311 ≤ v ∧ v < 338) ∨ (338 ≤ v ∧ v < 365) by omega) with g | g | g | g | g | g | g | g | g
  · exact part_at 27 122 v part0_ g.1 (by omega)
  · exact part_at 27 149 v part1_ g.1 (by omega)
  · exact part_at 27 176 v part2_ g.1 (by omega)
  · exact part_at 27 203 v part3_ g.1 (by omega)
  · exact part_at 27 230 v part4_ g.1 (by omega)
  · exact part_at 27 257 v part5_ g.1 (by omega)
  · exact part_at 27 284 v part6_ g.1 (by omega)
  · exact part_at 27 311 v part7_ g.1 (by omega)
  · exact part_at 27 338 v part8_ g.1 (by omega)
theorem RK_of {v : Int} {q : List Int × List Int} (h : ranks v = some q) (e : Int) : RK v e = if 0 ≤ e then q.1.getD e.toNat 0 else q.2.getD (-e).toNat 0 := by unfold RK; rw [h]
theorem RK_step (v e : Int) (h0 : 122 ≤ v) (h1 : v ≤ 364) (e0 : -20 ≤ e) (e1 : e ≤ 20) : RK (v - 1) e < RK v e := by
  obtain ⟨p, q, hp, hq, l1, l2, _⟩ := step_at v h0 h1
  have n := ranks_len hp
  rw [RK_of hp, RK_of hq]
  by_cases c : 0 ≤ e
  · rw [if_pos c, if_pos c]; exact ltAll_at _ _ _ l1 (by omega)
  · rw [if_neg c, if_neg c]; exact ltAll_at _ _ _ l2 (by omega)
theorem RK_up (e : Int) (e0 : -20 ≤ e) (e1 : e ≤ 20) : ∀ (d : Nat) (v : Int), 122 ≤ v → v + d ≤ 364 → RK v e ≤ RK (v + d) e
  | 0, v, _, _ => by simp
  | d + 1, v, h0, h1 => by
    have a := RK_up e e0 e1 d v h0 (by omega)
    have b := RK_step (v + d + 1) e (by omega) (by omega) e0 e1
    rw [show v + d + 1 - 1 = v + (d : Int) by omega] at b
    rw [show v + ((d + 1 : Nat) : Int) = v + d + 1 by omega]
    omega
theorem RK_lt (v w e : Int) (h0 : 122 ≤ v) (h : v < w) (h1 : w ≤ 364) (e0 : -20 ≤ e) (e1 : e ≤ 20) : RK v e < RK w e := by
  have a := RK_up e e0 e1 (w - 1 - v).toNat v h0 (by omega)
  have b := RK_step w e (by omega) h1 e0 e1
  rw [show v + ((w - 1 - v).toNat : Int) = w - 1 by omega] at a
  omega
theorem getD_take (l : List Int) (i n : Nat) (h : i < n) : (l.take n).getD i 0 = l.getD i 0 := by
  simp only [List.getD_eq_getElem?_getD]; rw [List.getElem?_take_of_lt h]
theorem getD_drop1 (l : List Int) (i : Nat) : (l.drop 1).getD i 0 = l.getD (i + 1) 0 := by
  simp only [List.getD_eq_getElem?_getD, List.getElem?_drop]; rw [Nat.add_comm]
theorem RK_next (e : Int) (e0 : -20 ≤ e) (e1 : e < 20) : RK 364 e < RK 122 (e + 1) := by
  have h := link_
  unfold link at h
  cases hp : ranks 364 with
  | none => rw [hp] at h; cases h
  | some p =>
    cases hq : ranks 122 with
    | none => rw [hp, hq] at h; cases h
    | some q =>
      rw [hp, hq] at h
      simp only [Bool.and_eq_true] at h
      have n := ranks_len hp
      have m := ranks_len hq
      rw [RK_of hp, RK_of hq]
      by_cases c : 0 ≤ e
      · have := ltAll_at _ _ e.toNat h.1.1 (by rw [List.length_take]; omega)
        rw [getD_take _ _ _ (by omega), getD_drop1] at this
        rw [if_pos c, if_pos (by omega), show (e + 1).toNat = e.toNat + 1 by omega]; exact this
      · have := ltAll_at _ _ ((-e).toNat - 1) h.1.2 (by rw [List.length_drop]; omega)
        rw [getD_take _ _ _ (by omega), getD_drop1, show (-e).toNat - 1 + 1 = (-e).toNat by omega] at this
        rw [if_neg c]
        by_cases z : e = -1
        · subst z
          rw [if_pos (by decide)]
          have d : q.1.getD 0 0 = q.2.getD 0 0 := by
            have a := ranks_at (e := 0) hq (by decide) (by decide)
            unfold ranks at hq
            obtain ⟨u, g1, hq⟩ := Option.bind_eq_some_iff.mp hq
            obtain ⟨d, g2, rfl⟩ := Option.map_eq_some_iff.mp hq
            obtain ⟨a1, k1, r1, k2, k3, _⟩ := (upsR_at 20 0 _ _ g1).2 (by omega)
            obtain ⟨a2, j1, r2, j2, j3, _⟩ := (downsR_at 20 0 _ _ g2).2 (by omega)
            have x1 : floatOfInt .f64 122 = a1 := Option.some.inj k1
            have x2 : floatOfInt .f64 122 = a2 := Option.some.inj j1
            rw [← x1] at k2
            rw [← x2, k2] at j2
            obtain rfl := Option.some.inj j2
            rw [k3] at j3
            exact Option.some.inj j3
          show p.2.getD 1 0 < q.1.getD 0 0
          rw [d]; exact this
        · rw [if_neg (by omega), show (-(e + 1)).toNat = (-e).toNat - 1 by omega]; exact this
theorem RK_later (v w : Int) (h0 : 122 ≤ v) (h1 : v ≤ 364) (h2 : 122 ≤ w) (h3 : w ≤ 364) : ∀ (d : Nat) (e : Int), -20 ≤ e → e + d + 1 ≤ 20 → RK v e < RK w (e + d + 1)
  | 0, e, e0, e1 => by
    have a := RK_next e e0 (by omega)
    have b := RK_up e e0 (by omega) (364 - v).toNat v h0 (by omega)
    have c := RK_up (e + 1) (by omega) (by omega) (w - 122).toNat 122 (by decide) (by omega)
    rw [show v + ((364 - v).toNat : Int) = 364 by omega] at b
    rw [show (122 : Int) + ((w - 122).toNat : Int) = w by omega] at c
    show RK v e < RK w (e + (0 : Nat) + 1)
    rw [show e + ((0 : Nat) : Int) + 1 = e + 1 by omega]
    omega
  | d + 1, e, e0, e1 => by
    have a := RK_later v 364 h0 h1 (by decide) (by decide) d e e0 (by omega)
    have b := RK_next (e + d + 1) (by omega) (by omega)
    have c := RK_up (e + d + 1 + 1) (by omega) (by omega) (w - 122).toNat 122 (by decide) (by omega)
    rw [show (122 : Int) + ((w - 122).toNat : Int) = w by omega] at c
    rw [show e + ((d + 1 : Nat) : Int) + 1 = e + d + 1 + 1 by omega]
    omega
theorem RK_pos (v e : Int) (h0 : 122 ≤ v) (h1 : v ≤ 364) (e0 : -20 ≤ e) (e1 : e ≤ 20) : 0 < RK v e := by
  have h := link_
  unfold link at h
  cases hp : ranks 364 with
  | none => rw [hp] at h; cases h
  | some p =>
    cases hq : ranks 122 with
    | none => rw [hp, hq] at h; cases h
    | some q =>
      rw [hp, hq] at h
      simp only [Bool.and_eq_true, decide_eq_true_eq] at h
      have b : 0 < RK 122 (-20) := by rw [RK_of hq]; exact h.2
      by_cases c : e = -20
      · subst c
        have := RK_up (-20) (by decide) (by decide) (v - 122).toNat 122 (by decide) (by omega)
        rw [show (122 : Int) + ((v - 122).toNat : Int) = v by omega] at this
        omega
      · have := RK_later 122 v (by decide) (by decide) h0 h1 (e + 19).toNat (-20) (by decide) (by omega)
        rw [show (-20 : Int) + ((e + 19).toNat : Int) + 1 = e by omega] at this
        omega
theorem getD_neg (l : List Int) (i : Nat) : (l.map fun x => -x).getD i 0 = -(l.getD i 0) := by
  simp only [List.getD_eq_getElem?_getD, List.getElem?_map]
  cases l[i]? <;> simp
theorem RK_neg (v e : Int) (h0 : 122 ≤ v) (h1 : v ≤ 364) : RK (-v) e = -(RK v e) := by
  obtain ⟨p, q, hp, hq, l1, l2, hn⟩ := step_at v h0 h1
  rw [RK_of hq, RK_of hn]
  unfold negL
  by_cases c : 0 ≤ e
  · rw [if_pos c, if_pos c, getD_neg]
  · rw [if_neg c, if_neg c, getD_neg]
/-- A number of six digits at a power: 0 at 0, or the highest digit not 0. -/
def Good (v e : Int) : Prop := (v = 0 ∧ e = 0) ∨ ((122 ≤ v ∧ v ≤ 364 ∨ -364 ≤ v ∧ v ≤ -122) ∧ -20 ≤ e ∧ e ≤ 20)
def RV (v e : Int) : Int := if v = 0 then 0 else RK v e
theorem sings (v e : Int) (h : Good v e) : ∃ a b r, mulN e.toNat (floatOfInt .f64 v) = some a ∧ divN (-e).toNat a = some b ∧ floatToFloatBits .f64 b .f32 = some r ∧ rank32 r = some (RV v e) ∧ rank32 (Op.negFloat .f32 r) = some (-(RV v e)) := by
  rcases h with ⟨rfl, rfl⟩ | ⟨h | h, e0, e1⟩
  · obtain ⟨r, h1, h2, h3⟩ := told_rk zeroR_
    exact ⟨_, _, r, rfl, rfl, h1, h2, h3⟩
  · obtain ⟨p, q, hp, hq, _⟩ := step_at v h.1 h.2
    obtain ⟨a, b, k1, k2, r, k3, k4, k5⟩ := ranks_at hq e0 e1
    unfold RV
    rw [if_neg (by omega)]
    exact ⟨a, b, r, k1, k2, k3, k4, k5⟩
  · obtain ⟨p, q, hp, hq, _, _, hn⟩ := step_at (-v) (by omega) (by omega)
    rw [Int.neg_neg] at hn
    obtain ⟨a, b, k1, k2, r, k3, k4, k5⟩ := ranks_at hn e0 e1
    unfold RV
    rw [if_neg (by omega)]
    exact ⟨a, b, r, k1, k2, k3, k4, k5⟩
theorem RV_neg (v e : Int) (h : Good v e) : RV (-v) e = -(RV v e) := by
  unfold RV
  rcases h with ⟨rfl, rfl⟩ | ⟨h | h, e0, e1⟩
  · rfl
  · rw [if_neg (by omega), if_neg (by omega), RK_neg v e h.1 h.2]
  · have := RK_neg (-v) e (by omega) (by omega)
    rw [if_neg (by omega), if_neg (by omega)]
    rw [Int.neg_neg] at this
    rw [this, Int.neg_neg]
/-- What it is worth. -/
def SV (v e : Int) : Int := v * pow3 (e + 20).toNat
theorem SV_lt (v w e f : Int) (h0 : 122 ≤ v) (h1 : v ≤ 364) (h2 : 122 ≤ w) (h3 : w ≤ 364) (e0 : -20 ≤ e) (h : e < f) : SV v e < SV w f := by
  unfold SV
  obtain ⟨d, hd⟩ : ∃ d : Nat, f = e + 1 + d := ⟨(f - e - 1).toNat, by omega⟩
  rw [show (f + 20).toNat = d + 1 + (e + 20).toNat by omega, pow3_add, ← Int.mul_assoc]
  refine Int.mul_lt_mul_of_pos_right ?_ (pow3_pos _)
  have p1 : pow3 (d + 1) = 3 * pow3 d := rfl
  have p2 := pow3_pos d
  rw [p1]
  have : (122 : Int) * (3 * pow3 d) ≤ w * (3 * pow3 d) := Int.mul_le_mul_of_nonneg_right h2 (by omega)
  omega
theorem pos_cmp (v w e f : Int) (h0 : 122 ≤ v) (h1 : v ≤ 364) (h2 : 122 ≤ w) (h3 : w ≤ 364) (e0 : -20 ≤ e) (e1 : e ≤ 20) (f0 : -20 ≤ f) (f1 : f ≤ 20) :
    (RK v e < RK w f ∧ SV v e < SV w f) ∨ (RK w f < RK v e ∧ SV w f < SV v e) ∨ (RK v e = RK w f ∧ SV v e = SV w f) := by
  have lt : ∀ v w e f : Int, 122 ≤ v → v ≤ 364 → 122 ≤ w → w ≤ 364 → -20 ≤ e → e < f → f ≤ 20 → RK v e < RK w f ∧ SV v e < SV w f := fun v w e f a1 a2 a3 a4 a5 a6 a7 => by
    have := RK_later v w a1 a2 a3 a4 (f - e - 1).toNat e a5 (by omega)
    rw [show e + ((f - e - 1).toNat : Int) + 1 = f by omega] at this
    exact ⟨this, SV_lt v w e f a1 a2 a3 a4 a5 a6⟩
  rcases Int.lt_trichotomy e f with c | c | c
  · exact .inl (lt v w e f h0 h1 h2 h3 e0 c f1)
  · subst c
    have sv : ∀ a b : Int, a < b → SV a e < SV b e := fun a b h => Int.mul_lt_mul_of_pos_right h (pow3_pos _)
    rcases Int.lt_trichotomy v w with g | g | g
    · exact .inl ⟨RK_lt v w e h0 g h3 e0 e1, sv v w g⟩
    · subst g; exact .inr (.inr ⟨rfl, rfl⟩)
    · exact .inr (.inl ⟨RK_lt w v e h2 g h1 e0 e1, sv w v g⟩)
  · exact .inr (.inl (lt w v f e h2 h3 h0 h1 f0 c e1))
theorem SV_pos (v e : Int) (h : 0 < v) : 0 < SV v e := Int.mul_pos h (pow3_pos _)
theorem SV_neg (v e : Int) : SV (-v) e = -(SV v e) := by unfold SV; rw [Int.neg_mul]
/-- The order of the floats is the order of what the numbers are worth. -/
theorem all_cmp (v w e f : Int) (h : Good v e) (g : Good w f) : (RV v e < RV w f ∧ SV v e < SV w f) ∨ (RV w f < RV v e ∧ SV w f < SV v e) ∨ (RV v e = RV w f ∧ SV v e = SV w f) := by
  have z : ∀ e, SV 0 e = 0 := fun e => Int.zero_mul _
  have zr : ∀ e, RV 0 e = 0 := fun e => if_pos rfl
  have p : ∀ v e, 122 ≤ v → v ≤ 364 → -20 ≤ e → e ≤ 20 → 0 < RV v e ∧ 0 < SV v e ∧ RV v e = RK v e := fun v e a1 a2 a3 a4 => by
    have : RV v e = RK v e := if_neg (by omega)
    rw [this]; exact ⟨RK_pos v e a1 a2 a3 a4, SV_pos v e (by omega), rfl⟩
  have n : ∀ v e, -364 ≤ v → v ≤ -122 → -20 ≤ e → e ≤ 20 → RV v e < 0 ∧ SV v e < 0 ∧ RV v e = -(RK (-v) e) ∧ SV v e = -(SV (-v) e) := fun v e a1 a2 a3 a4 => by
    have a := p (-v) e (by omega) (by omega) a3 a4
    have b := RV_neg (-v) e (.inr ⟨.inl ⟨by omega, by omega⟩, a3, a4⟩)
    rw [Int.neg_neg] at b
    have c := SV_neg (-v) e
    rw [Int.neg_neg] at c
    rw [b, c]
    refine ⟨by omega, by omega, by rw [a.2.2], rfl⟩
  rcases h with ⟨rfl, rfl⟩ | ⟨h | h, e0, e1⟩
  · rw [z, zr]
    rcases g with ⟨rfl, rfl⟩ | ⟨g | g, f0, f1⟩
    · rw [z, zr]; exact .inr (.inr ⟨rfl, rfl⟩)
    · have a := p w f g.1 g.2 f0 f1; exact .inl ⟨a.1, a.2.1⟩
    · have a := n w f g.1 g.2 f0 f1; exact .inr (.inl ⟨a.1, a.2.1⟩)
  · have b := p v e h.1 h.2 e0 e1
    rcases g with ⟨rfl, rfl⟩ | ⟨g | g, f0, f1⟩
    · rw [z, zr]; exact .inr (.inl ⟨b.1, b.2.1⟩)
    · have a := p w f g.1 g.2 f0 f1
      rw [a.2.2, b.2.2]
      exact pos_cmp v w e f h.1 h.2 g.1 g.2 e0 e1 f0 f1
    · have a := n w f g.1 g.2 f0 f1; exact .inr (.inl ⟨by omega, by omega⟩)
  · have b := n v e h.1 h.2 e0 e1
    rcases g with ⟨rfl, rfl⟩ | ⟨g | g, f0, f1⟩
    · rw [z, zr]; exact .inl ⟨b.1, b.2.1⟩
    · have a := p w f g.1 g.2 f0 f1; exact .inl ⟨by omega, by omega⟩
    · have a := n w f g.1 g.2 f0 f1
      have c := pos_cmp (-v) (-w) e f (by omega) (by omega) (by omega) (by omega) e0 e1 f0 f1
      omega
theorem whole_at : ∀ (n : Nat) (v0 v : Int), whole n v0 = true → v0 ≤ v → v < v0 + n → ∃ r z, floatToFloatBits .f64 (floatOfInt .f64 v) .f32 = some r ∧ rank32 r = some z ∧ rank32 (floatOfInt .f32 v) = some z
  | 0, v0, v, h, h0, h1 => by omega
  | n + 1, v0, v, h, h0, h1 => by
    unfold whole at h
    simp only [Bool.and_eq_true, decide_eq_true_eq] at h
    by_cases e : v = v0
    · subst e
      obtain ⟨z, hz⟩ := Option.isSome_iff_exists.mp h.1.2
      obtain ⟨r, k1, k2, _⟩ := told_rk hz
      exact ⟨r, z, k1, k2, h.1.1.trans hz⟩
    · exact whole_at n (v0 + 1) v h.2 (by omega) (by omega)
/-- A whole number of at most eight bits and six digits, as a float of 32 bits. -/
theorem whole_eq (v : Int) (h : (122 ≤ v ∧ v ≤ 255) ∨ (-255 ≤ v ∧ v ≤ -122)) : ∃ r, floatToFloatBits .f64 (floatOfInt .f64 v) .f32 = some r ∧ FloatKind.f32.format.order r (floatOfInt .f32 v) = some .eq := by
  obtain ⟨r, z, a, b, c⟩ : ∃ r z, floatToFloatBits .f64 (floatOfInt .f64 v) .f32 = some r ∧ rank32 r = some z ∧ rank32 (floatOfInt .f32 v) = some z := by
    rcases h with h | h
    · exact whole_at 134 122 v wholeA_ h.1 (by omega)
    · exact whole_at 134 (-255) v wholeB_ h.1 (by omega)
  exact ⟨r, a, by rw [ord_rank b c, cmp3_eq]⟩
end Go.Proofs.Ytffhddibgfaopaa.P
