/- The law of the one-word floats' order: its walk, over one plain statement; no condition is set on any claim. -/
import Derived.Test.YtffhddibgfaopaaZSnSng3
import Derived.Test.YtffhddibgfaopaaZSnSng5
import Derived.Test.YtffhddibgfaopaaZSnSng6
namespace Go.Proofs.Ytffhddibgfaopaa.P
open Go.RowKit Go.Proofs.YtffhddibgfaopaaW.PrintWords Go.Proofs.YtffhddibgfaopaaW.PrintLast Go.Proofs.YtffhddibgfaopaaW.PrintMore
open Go.Proofs.Ytffhddibgfaopaa.Tern (sg)
set_option linter.unusedVariables false
set_option linter.unusedSimpArgs false
set_option maxHeartbeats 1600000 in
set_option maxRecDepth 100000 in
theorem lawSing_big (A0 : Option Addr) (c0 : Nat) (l : List Int) (w : World) (hz : (l.length : Int) > 1048576) :
    Calls Try.prog 5 #[.slice A0 l.length c0] w fun e' w' => e' = .returned (.bool true) ∧ Below w.heap.size w w' := by
  have HB := Aside0.mk (Below.refl w.heap.size w)
  have d0 : decide ((l.length : Int) > 1048576) = true := decide_eq_true hz
  have d1 : decide ((1048576 : Int) < (l.length : Int)) = true := decide_eq_true hz
  clear hz
  go_enter Try.func5, Try.ntmps5
  go_wp2
  go_ret
  exact ⟨rfl, bB HB.out⟩
/-- What a valid number is known by. -/
def Sng (k : Nat) (l : List Int) (e v : Int) : Prop := impl_IsFloat.f k l e = some true ∧ impl_value.f k l = some v ∧ Good v e
theorem Good.exp {v e : Int} (h : Good v e) : -20 ≤ e ∧ e ≤ 20 := by
  rcases h with ⟨_, rfl⟩ | ⟨_, h⟩
  · exact ⟨by decide, by decide⟩
  · exact h
/-- The number of 32 bits that is made of a valid one. -/
theorem sng_of {k : Nat} {l : List Int} {e v : Int} (h : Sng k l e v) : ∃ r, rank32 r = some (RV v e) ∧ rank32 (Op.negFloat .f32 r) = some (-(RV v e)) ∧ (e = 0 → floatToFloatBits .f64 (floatOfInt .f64 v) .f32 = some r) ∧
    ∀ A c w, Kd.C (Kd.int .i64) w A l.length l → l.length ≤ c → Calls Try.prog 14 #[.agg #[.slice A l.length c, .int .i64 e]] w fun e' w' => e' = .returned (.float .f32 r) ∧ Below w.heap.size w w' := by
  obtain ⟨h1, h2, h3⟩ := h
  obtain ⟨a, b, r, g1, g2, g3, g4, g5⟩ := sings v e h3
  refine ⟨r, g4, g5, fun he => ?_, fun A c w x y => impl_SingleOf.walk k A c l e v w x y h1 h2 a b r g1 g2 g3 h3.exp⟩
  subst he
  obtain rfl : _ = a := Option.some.inj g1
  obtain rfl : _ = b := Option.some.inj g2
  exact g3
def laws_FnSingles.Pure : Prop := ∀ (l : List Int), l.length ≤ maxLen → (∀ x ∈ l, (Lit.int .u8 x).wf = true) → (l.length : Int) > 1048576 ∨ (¬ (l.length : Int) > 1048576 ∧
  ∃ (k : Nat) (la lb fr lf ln : List Int) (ea eb ef en t c va vb vf : Int), spec_MakeFloating.f k l = some (la, ea) ∧ laws_fresh.f k l 3 = some fr ∧ spec_MakeFloating.f k fr = some (lb, eb) ∧ laws_at.f l 1 = some t ∧
    impl_FloatOf.f k (wrap64 (wrap64 (t * 2) - 255)) 0 = some (lf, ef, true) ∧ impl_CompareFloats.f k la ea lb eb = some c ∧ impl_NegateFloat.f k la ea = some (ln, en) ∧
    Sng k la ea va ∧ Sng k lb eb vb ∧ Sng k ln en (-va) ∧ en = ea ∧ c = sg (SV va ea - SV vb eb) ∧ (ef = 0 → Sng k lf ef vf ∧ vf = wrap64 (wrap64 (t * 2) - 255) ∧ ((122 ≤ vf ∧ vf ≤ 255) ∨ (-255 ≤ vf ∧ vf ≤ -122))))
theorem laws_FnSingles.walk (P : laws_FnSingles.Pure) (a0 : Option Addr) (len0 cap0 : Nat) (z0 : List Int) (w : World) (w0 : (a0 = none ∧ len0 = 0 ∧ cap0 = 0 ∧ z0 = []) ∨ ∃ x, a0 = some x ∧ len0 ≤ cap0 ∧ cap0 ≤ maxLen ∧ z0.length = cap0 ∧ (∀ i, i < z0.length → w.cell? (x.add i) = some (.int .u8 (z0.getD i 0))) ∧ ∀ n ∈ z0, (Lit.int .u8 n).wf = true) (y0 : len0 * 1 ≤ 140737488351232) :
    Calls Try.prog 5 #[.slice a0 len0 cap0] w fun e w' => e = .returned (.bool true) ∧ Below w.heap.size w w' := by
  obtain ⟨l0, rfl, hr0, hm0, hw0, hc0⟩ := ReadsInt.ofRowC w0
  have hr := Kd.C_of_reads (d := (0 : Int)) (h1 := fun _ => rfl) hr0
  rcases P l0 hm0 hw0 with hb | ⟨hz, k, la, lb, fr, lf, ln, ea, eb, ef, en, t, c, va, vb, vf, h1, h2, h3, h6, h7, h8, h9, sa, sb, sn, he, hc, hf⟩
  · exact lawSing_big _ _ l0 w hb
  · obtain ⟨x, x1, x2, _, x4⟩ := sng_of sa
    obtain ⟨y, y1, y2, _, y4⟩ := sng_of sb
    obtain ⟨n, n1, _, _, n4⟩ := sng_of sn
    rw [he, RV_neg va ea sa.2.2] at n1
    have o3 : (FloatKind.f32.format.order n (Op.negFloat .f32 x) == some .eq) = true := by rw [ord_rank n1 x2, cmp3_eq]; rfl
    have oxy := ord_rank x1 y1
    obtain ⟨o1, o2, oc⟩ : (FloatKind.f32.format.order x y == some .lt) = decide (c = -1) ∧ (FloatKind.f32.format.order x y == some .gt) = decide (c = 1) ∧ (c = -1 ∨ c = 0 ∨ c = 1) := by
      rw [oxy]
      rcases all_cmp va vb ea eb sa.2.2 sb.2.2 with ⟨p, q⟩ | ⟨p, q⟩ | ⟨p, q⟩
      · have e : c = -1 := by rw [hc]; unfold sg; rw [if_pos (by omega)]
        rw [cmp3_lt p, e]; exact ⟨rfl, rfl, .inl rfl⟩
      · have e : c = 1 := by rw [hc]; unfold sg; rw [if_neg (by omega), if_pos (by omega)]
        rw [cmp3_gt p, e]; exact ⟨rfl, rfl, .inr (.inr rfl)⟩
      · have e : c = 0 := by rw [hc]; unfold sg; rw [if_neg (by omega), if_neg (by omega)]
        rw [p, cmp3_eq, e]; exact ⟨rfl, rfl, .inr (.inl rfl)⟩
    by_cases e0 : ef = 0
    · obtain ⟨sf, fv, fb⟩ := hf e0
      subst e0
      obtain ⟨z, _, _, z3, z4⟩ := sng_of sf
      obtain ⟨r, r1, r2⟩ := whole_eq vf fb
      rw [z3 rfl] at r1
      obtain rfl := Option.some.inj r1
      exact lawSing0_ k _ _ l0 la lb fr lf ln ea eb en t c x y z n w hr hc0 hz h1 h2 h3 x4 y4 h6 h7 h8 h9 n4 o1 o2 oc o3 z4 (by rw [← fv, r2]; rfl)
    · exact lawSing_ k _ _ l0 la lb fr lf ln ea eb ef en t c x y 0 n w hr hc0 hz h1 h2 h3 x4 y4 h6 h7 h8 h9 n4 o1 o2 oc o3 e0
end Go.Proofs.Ytffhddibgfaopaa.P
