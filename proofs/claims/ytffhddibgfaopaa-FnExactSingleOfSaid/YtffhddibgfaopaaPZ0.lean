/- The law of the one-word float: its walk, over one plain statement; no condition is set on any claim. -/
import Derived.Test.YtffhddibgfaopaaSin3
import Derived.Test.YtffhddibgfaopaaSin5
import Derived.Test.YtffhddibgfaopaaSin6
import Derived.Test.YtffhddibgfaopaaSin7
import Derived.Test.YtffhddibgfaopaaSin8
namespace Go.Proofs.Ytffhddibgfaopaa.P
open Go.RowKit Go.Proofs.YtffhddibgfaopaaW.PrintWords Go.Proofs.YtffhddibgfaopaaW.PrintLast Go.Proofs.YtffhddibgfaopaaW.PrintMore
set_option linter.unusedVariables false
set_option linter.unusedSimpArgs false
theorem some_at : ∀ (n : Nat) (v0 v : Int), some_ n v0 = true → v0 ≤ v → v < v0 + n → one_ v = true
  | 0, v0, v, _, h0, h1 => by omega
  | n + 1, v0, v, h, h0, h1 => by
    rw [some_, Bool.and_eq_true] at h
    by_cases e : v = v0
    · rw [e]; exact h.1
    · exact some_at n (v0 + 1) v h.2 (by omega) (by omega)
theorem ups_at : ∀ (n j : Nat) (x : Nat), ups n x = true → j ≤ n → ∃ a, mulN j x = some a ∧ last_ a = true
  | 0, 0, x, h, _ => ⟨x, rfl, h⟩
  | n + 1, 0, x, h, _ => by rw [ups, Bool.and_eq_true] at h; exact ⟨x, rfl, h.1⟩
  | n + 1, j + 1, x, h, hj => by
    rw [ups, Bool.and_eq_true] at h
    have h2 := h.2
    rw [mulN]
    cases hm : FloatKind.f64.format.mul x c3 with
    | none => rw [hm] at h2; cases h2
    | some y => rw [hm] at h2; exact ups_at n j y h2 (by omega)
theorem downs_at : ∀ (n j : Nat) (x : Nat), downs n x = true → j ≤ n → ∃ a, divN j x = some a ∧ last_ a = true
  | 0, 0, x, h, _ => ⟨x, rfl, h⟩
  | n + 1, 0, x, h, _ => by rw [downs, Bool.and_eq_true] at h; exact ⟨x, rfl, h.1⟩
  | n + 1, j + 1, x, h, hj => by
    rw [downs, Bool.and_eq_true] at h
    have h2 := h.2
    rw [divN]
    cases hm : FloatKind.f64.format.div x c3 with
    | none => rw [hm] at h2; cases h2
    | some y => rw [hm] at h2; exact downs_at n j y h2 (by omega)
theorem last_at (b : Nat) (h : last_ b = true) : ∃ r q s, floatToFloatBits .f64 b .f32 = some r ∧ floatToFloatBits .f32 r .f64 = some q ∧ FloatKind.f64.format.order q q = some .eq ∧ ((FloatKind.f64.format.order q 0 == some .eq) = true → floatBits .quo .f64 4607182418800017408 q = some s) := by
  unfold last_ at h
  cases h1 : floatToFloatBits .f64 b .f32 with
  | none => rw [h1] at h; cases h
  | some r =>
    rw [h1] at h
    cases h2 : floatToFloatBits .f32 r .f64 with
    | none => simp only [h2] at h; cases h
    | some q =>
      simp only [h2, Bool.and_eq_true, beq_iff_eq] at h
      refine ⟨r, q, (floatBits .quo .f64 4607182418800017408 q).getD 0, rfl, h2, h.1, fun hz => ?_⟩
      have h3 := h.2
      rw [hz] at h3
      cases h4 : floatBits .quo .f64 4607182418800017408 q with
      | none => rw [h4] at h3; simp at h3
      | some s => rfl
/-- What is told of a number of six trits at a power: all floats on the way. -/
theorem told (v e : Int) (h : v = 0 ∨ (122 ≤ v ∧ v ≤ 364) ∨ (-364 ≤ v ∧ v ≤ -122)) (h0 : -20 ≤ e) (h1 : e ≤ 20) : ∃ a b r q s, mulN e.toNat (floatOfInt .f64 v) = some a ∧ divN (-e).toNat a = some b ∧ floatToFloatBits .f64 b .f32 = some r ∧ floatToFloatBits .f32 r .f64 = some q ∧ FloatKind.f64.format.order q q = some .eq ∧ ((FloatKind.f64.format.order q 0 == some .eq) = true → floatBits .quo .f64 4607182418800017408 q = some s) := by
  have ho : one_ v = true := by
    rcases h with h | h | h
    · exact some_at 1 0 v zero_ (by omega) (by omega)
    · rcases (show (122 ≤ v ∧ v < 149) ∨ (149 ≤ v ∧ v < 176) ∨ (176 ≤ v ∧ v < 203) ∨ (203 ≤ v ∧ v < 230) ∨ (230 ≤ v ∧ v < 257) ∨ (257 ≤ v ∧ v < 284) ∨ (284 ≤ v ∧ v < 311) ∨ (311 ≤ v ∧ v < 338) ∨ (338 ≤ v ∧ v < 365) by omega) with g | g | g | g | g | g | g | g | g
      · exact some_at 27 122 v pos0_ g.1 (by omega)
      · exact some_at 27 149 v pos1_ g.1 (by omega)
      · exact some_at 27 176 v pos2_ g.1 (by omega)
      · exact some_at 27 203 v pos3_ g.1 (by omega)
      · exact some_at 27 230 v pos4_ g.1 (by omega)
      · exact some_at 27 257 v pos5_ g.1 (by omega)
      · exact some_at 27 284 v pos6_ g.1 (by omega)
      · exact some_at 27 311 v pos7_ g.1 (by omega)
      · exact some_at 27 338 v pos8_ g.1 (by omega)
    · rcases (show ((-364) ≤ v ∧ v < (-337)) ∨ ((-337) ≤ v ∧ v < (-310)) ∨ ((-310) ≤ v ∧ v < (-283)) ∨ ((-283) ≤ v ∧ v < (-256)) ∨ ((-256) ≤ v ∧ v < (-229)) ∨ ((-229) ≤ v ∧ v < (-202)) ∨ ((-202) ≤ v ∧ v < (-175)) ∨ ((-175) ≤ v ∧ v < (-148)) ∨ ((-148) ≤ v ∧ v < (-121)) by omega) with g | g | g | g | g | g | g | g | g
      · exact some_at 27 (-364) v neg0_ g.1 (by omega)
      · exact some_at 27 (-337) v neg1_ g.1 (by omega)
      · exact some_at 27 (-310) v neg2_ g.1 (by omega)
      · exact some_at 27 (-283) v neg3_ g.1 (by omega)
      · exact some_at 27 (-256) v neg4_ g.1 (by omega)
      · exact some_at 27 (-229) v neg5_ g.1 (by omega)
      · exact some_at 27 (-202) v neg6_ g.1 (by omega)
      · exact some_at 27 (-175) v neg7_ g.1 (by omega)
      · exact some_at 27 (-148) v neg8_ g.1 (by omega)
  rw [one_, Bool.and_eq_true] at ho
  by_cases he : 0 ≤ e
  · obtain ⟨a, h2, h3⟩ := ups_at 20 e.toNat _ ho.1 (by omega)
    obtain ⟨r, q, s, h4⟩ := last_at a h3
    exact ⟨a, a, r, q, s, h2, by rw [show (-e).toNat = 0 by omega]; rfl, h4⟩
  · obtain ⟨b, h2, h3⟩ := downs_at 20 (-e).toNat _ ho.2 (by omega)
    obtain ⟨r, q, s, h4⟩ := last_at b h3
    exact ⟨floatOfInt .f64 v, b, r, q, s, by rw [show e.toNat = 0 by omega]; rfl, h2, h4⟩
set_option maxHeartbeats 1600000 in
set_option maxRecDepth 100000 in
theorem lawSin_big (A0 : Option Addr) (c0 : Nat) (l : List Int) (e z : Int) (w : World) (hr : Kd.C (Kd.int .i64) w A0 l.length l) (hc : l.length ≤ c0) (hz : laws_szFloating.f l e 1048576 = some z) (hz0 : z < 0) :
    Calls Try.prog 4 #[.agg #[.slice A0 l.length c0, .int .i64 e]] w fun e' w' => e' = .returned (.bool true) ∧ Below w.heap.size w w' := by
  have HB := Aside0.mk (Below.refl w.heap.size w)
  have HR := Aside0.mk hr
  have HC := Aside0.mk hc
  have HZ := Aside0.mk hz
  have d0 : decide (z < 0) = true := decide_eq_true hz0
  clear hr hc hz hz0
  go_enter Try.func4, Try.ntmps4
  go_wp2_with (go_at_call 6; (with_reducible refine (laws_szFloating.calls _ _ l e 1048576 z _ ?s1 HC.out HZ.out).mono ?_); (case s1 => exact bD HR.out); rintro e1 w1 ⟨rfl, hb⟩; have HB1 := Aside0.mk (show Below w.heap.size w w1 from below_step (below_alloc HB.out _) hb); clear hb)
  go_ret
  exact ⟨rfl, HB1.out⟩
def laws_FnExactSingleOf.Pure : Prop := ∀ (l : List Int) (e : Int), l.length ≤ maxLen → ∃ k z, laws_szFloating.f l e 1048576 = some z ∧ (z < 0 ∨ (¬ z < 0 ∧ laws_toFloating.f k l e = some (l, e) ∧ laws_eqFloating.f k l e l e = some true ∧ ((impl_IsFloat.f k l e = some false ∧ spec_IsFloat.f k l e = some false) ∨ (∃ v, impl_IsFloat.f k l e = some true ∧ spec_IsFloat.f k l e = some true ∧ spec_l2Value.f k l = some v ∧ impl_value.f k l = some v ∧ -20 ≤ e ∧ e ≤ 20 ∧ (v = 0 ∨ (122 ≤ v ∧ v ≤ 364) ∨ (-364 ≤ v ∧ v ≤ -122))))))
theorem laws_FnExactSingleOf.walk (P : laws_FnExactSingleOf.Pure) (A0 : Option Addr) (c0 : Nat) (l : List Int) (e : Int) (w : World) (hr : Kd.C (Kd.int .i64) w A0 l.length l) (hc : l.length ≤ c0) (hl : l.length ≤ maxLen) :
    Calls Try.prog 4 #[.agg #[.slice A0 l.length c0, .int .i64 e]] w fun e' w' => e' = .returned (.bool true) ∧ Below w.heap.size w w' := by
  obtain ⟨k, z, hz, h | ⟨hz0, ht, he, h⟩⟩ := P l e hl
  · exact lawSin_big A0 c0 l e z w hr hc hz h
  · rcases h with ⟨h1, h2⟩ | ⟨v, h1, h2, h3, h4, e0, e1, hv⟩
    · exact lawSin k A0 c0 l e z 0 0 9218868437227405312 w hr hc hz hz0 ht he (fun A c w' a b => spec_SingleOf.none_ k A c l e w' a b h2) (fun A c w' a b => impl_SingleOf.none_ k A c l e w' a b h1) (by kernel_rfl) (by kernel_rfl) (fun _ => by kernel_rfl)
    · obtain ⟨a, b, r, q, s, g1, g2, g3, g4, g5, g6⟩ := told v e hv e0 e1
      exact lawSin k A0 c0 l e z r q s w hr hc hz hz0 ht he (fun A c w' x y => spec_SingleOf.walk k A c l e v w' x y h2 h3 a b r g1 g2 g3 ⟨e0, e1⟩) (fun A c w' x y => impl_SingleOf.walk k A c l e v w' x y h1 h4 a b r g1 g2 g3 ⟨e0, e1⟩) g4 g5 g6
end Go.Proofs.Ytffhddibgfaopaa.P
