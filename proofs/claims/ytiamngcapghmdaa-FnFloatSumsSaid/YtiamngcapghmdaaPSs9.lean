/- What functions of the program come to, each with the proof that it does, laid by a program of this session out of the translation; no condition is set on any claim. -/
import Derived.Test.YtiamngcapghmdaaPSs8
import Derived.Test.YtiamngcapghmdaaPSs0
import Derived.Test.YtiamngcapghmdaaPSs3
import Derived.Test.YtiamngcapghmdaaPSs4
import Derived.Test.YtiamngcapghmdaaPSs5
import Derived.Test.YtiamngcapghmdaaPSs6
namespace Go.Proofs.Ytiamngcapghmdaa.P
open Go.RowKit Go.Proofs.YtiamngcapghmdaaW.PrintWords Go.Proofs.YtiamngcapghmdaaW.PrintLast Go.Proofs.YtiamngcapghmdaaW.PrintMore
attribute [local go_sem] max2_int min2_int max_two min_two max_three min_three max_four min_four   -- for this text's walks alone
set_option linter.unusedVariables false
set_option linter.unusedSimpArgs false
abbrev NS (k : Nat) (A : Option Addr) (l : List Int) (c : Nat) : Prop := some k ≠ (Value.slice A l.length c).ownBlock
set_option maxHeartbeats 8000000 in
set_option maxRecDepth 100000 in
theorem laws_FnFloatSums.leaf (k : Nat) (A0 : Option Addr) (c0 : Nat) (l0 : List Int) (w : World) (HR0 : Aside0 ((Kd.int IntKind.u8).C w A0 l0.length l0)) (HC0 : Aside0 (l0.length ≤ c0)) (c2b0 : decide (1048576 < (l0.length : Int)) = false) (c2b1 : decide (1048576 < l0.length) = false) (t101 : List Int) (t104 : Int) (A3 : Aside0 (spec_MakeFloating.f k l0 = some (t101, t104))) (t106 : List Int) (A4 : Aside0 (laws_fresh.f k l0 3 = some t106)) (t109 : List Int) (t112 : Int) (A5 : Aside0 (spec_MakeFloating.f k t106 = some (t109, t112))) (t114 : List Int) (t117 : Int) (t120 : List Int) (t123 : Int) (t124 : Bool) (r : Bool) (t126 : List Int) (t129 : Int) (t130 : Bool) (A8 : Aside0 (impl_AddFloats.f k t109 t112 t101 t104 = some (t126, t129, t130))) (t132 : List Int) (t135 : Int) (t136 : Bool) (A9 : Aside0 (impl_SubFloats.f k t101 t104 t109 t112 = some (t132, t135, t136))) (t138 : List Int) (t141 : Int) (A10 : Aside0 (impl_NegateFloat.f k t109 t112 = some (t138, t141))) (t142 : List Int) (t145 : Int) (t146 : Bool) (A11 : Aside0 (impl_AddFloats.f k t101 t104 t138 t141 = some (t142, t145, t146))) (t148 : List Int) (t151 : Int) (t154 : List Int) (t157 : Int) (t160 : List Int) (t163 : Int) (A14 : Aside0 (impl_NegateFloat.f k t101 t104 = some (t160, t163))) (t164 : List Int) (t167 : Int) (A15 : Aside0 (impl_NegateFloat.f k t109 t112 = some (t164, t167))) (t168 : List Int) (t171 : Int) (t172 : Bool) (A16 : Aside0 (impl_AddFloats.f k t160 t163 t164 t167 = some (t168, t171, t172))) (A6 : Aside0 (impl_FloatOf.f k 0 0 = some (t114, t117, true))) (c19b0 : (t136 == t146) = true) (c19b1 : decide (t136 = t146) = true) (c19b2 : (t136 == t146) = true) (A12 : Aside0 (impl_SubFloats.f k t101 t104 t101 t104 = some (t148, t151, true))) (A13 : Aside0 (impl_AddFloats.f k t101 t104 t114 t117 = some (t154, t157, true))) (A23 : Aside0 (laws_floats.f k t120 t123 t126 t129 = some true)) (A25 : Aside0 (laws_floats.f k t132 t135 t142 t145 = some true)) (A27 : Aside0 (laws_floats.f k t148 t151 t114 t117 = some true)) (A29 : Aside0 (laws_floats.f k t154 t157 t101 t104 = some true)) (A7 : Aside0 (impl_AddFloats.f k t101 t104 t109 t112 = some (t120, t123, t124))) (c18b0 : (t124 == t130) = true) (c18b1 : decide (t124 = t130) = true) (c18b2 : (t124 == t130) = true) (c22b0 : (t172 == t124) = true) (c22b1 : decide (t172 = t124) = true) (c22b2 : (t172 == t124) = true) (HT : Aside0 (r = true)) (HL : (if t124 = true then ((impl_NegateFloat.f k t120 t123).bind fun bt178 => ((laws_floats.f k t168 t171 bt178.1 bt178.2).bind fun t182 => (some t182))) else (some true)) = some r) :
  Calls Try.prog 9 #[Value.slice A0 l0.length c0] w fun e w' => e = Ending.returned (Value.bool r) ∧ Below w.heap.size w w' := by
 replace HL := am HL; have hu27 := Try.underlying27; have HB := am (Below.refl w.heap.size w)
 go_enter Try.func9, Try.ntmps9
 try go_wp2_with (first | ((with_reducible refine gate_callee (f := 36) rfl ?_); refine goesL_ (some 25) rfl rfl Try.func36 (by kernel_rfl) rfl #[.slice A0 l0.length c0] rfl bE ?_; (with_reducible refine (spec_MakeFloating.calls k _ _ l0 t101 t104 _ ?side1 ?side2 A3.out).mono ?_); (case side1 => exact bD (HR0.out)); (case side2 => exact HC0.out); rintro e w34 ⟨v102, rfl, ho0, hb⟩; refine ⟨_, rfl, ?_⟩; have HO103 := am (Kd.R_lower ho0 (below_size (bB HB.out))); replace HB := am (below_step (bB HB.out) hb); (try clear hb); (try clear hb2); (try clear hk); (try clear hi); (try clear ho0)) | ((with_reducible refine gate_dst (N := 3) rfl ?_); refine box_event ?hg (N := 3) ?hd (cs := #[.slice none 0 0, .int .i64 0]) (t := 27) ?hr ?_; (case hd => rfl); (case hg => rfl); (case hr => first | (go_simp; done) | (go_simp; rfl)); intro gb105 hg w35 hbox hb; have BK105 := am (hbox); have GW105 := am ((by rw [hg]; exact (below_size (bB HB.out)) : w.heap.size ≤ gb105)); have GE105 := am ((by rw [hg]; exact (below_size (bB HB.out)) : w.heap.size ≤ gb105)); replace HO103 := am (Kd.R_below (bC HO103.out) hb); replace HB := am (below_step (bB HB.out) hb); clear hb hbox hg; obtain ⟨Ao36, co36, eo36⟩ := Kd.R_slice HO103.out; subst eo36; have hcz37_0 : w35.cell? ⟨gb105, 0, none⟩ = some (.slice none 0 0) := (blk_cell BK105.out 0).trans rfl; have hcz37_1 : w35.cell? ⟨gb105, 1, none⟩ = some (.int .i64 0) := (blk_cell BK105.out 1).trans rfl; have hfz37_0 := blk_frozen BK105.out 0; have hfz37_1 := blk_frozen BK105.out 1) | ((with_reducible refine gate_callee (f := 37) rfl ?_); refine goesL_ (some 27) rfl rfl Try.func37 (by kernel_rfl) rfl #[.slice A0 l0.length c0, .int .i64 3] rfl bE ?_; (with_reducible refine (laws_fresh.calls k _ _ l0 3 t106 _ ?side1 ?side2 A4.out).mono ?_); (case side1 => exact Kd.C_below HR0.out (bB HB.out)); (case side2 => exact HC0.out); rintro e w38 ⟨v107, rfl, ho0, hb⟩; refine ⟨_, rfl, ?_⟩; have HO108 := am (Kd.R_lower ho0 (below_size (bB HB.out))); replace HO103 := am (Kd.R_below (bC ((Kd.R_mono (Kd.R_far (p := ⟨gb105, 1, none⟩) (Kd.R_far (p := ⟨gb105, 0, none⟩) (Kd.R_types HO103.out BK105.out (by decide)) (fun _ hk => hk.2) (.slice Ao36 t101.length co36)) (fun _ hk => hk.2) (.int .i64 t104)) (fun _ h_ => h_.1)))) hb); replace BK105 := am (blk_below (g := gb105) (o := .cells #[.slice Ao36 t101.length co36, .int .i64 t104] 27 (0, 0)) (by (with_reducible repeat (first | refine blk_drewN ?_ _ | refine blk_drew ?_ | refine blk_alloc ?_ _)); refine blk_put (cs := #[.slice Ao36 t101.length co36, .int .i64 0]) ?_ 1 _ rfl; (with_reducible repeat (first | refine blk_drewN ?_ _ | refine blk_drew ?_ | refine blk_alloc ?_ _)); refine blk_put (cs := #[.slice none 0 0, .int .i64 0]) ?_ 0 _ rfl; (with_reducible repeat (first | refine blk_drewN ?_ _ | refine blk_drew ?_ | refine blk_alloc ?_ _)); exact BK105.out) hb); replace HB := am (below_step (bB HB.out) hb); (try clear hb); (try clear hb2); (try clear hk); (try clear hi); (try clear ho0); obtain ⟨Ao39, co39, eo39⟩ := Kd.R_slice HO108.out; subst eo39) | ((with_reducible refine gate_callee (f := 36) rfl ?_); refine goesL_ (some 28) rfl rfl Try.func36 (by kernel_rfl) rfl #[.slice Ao39 t106.length co39] rfl bE ?_; (with_reducible refine (spec_MakeFloating.calls k _ _ t106 t109 t112 _ ?side1 ?side2 A5.out).mono ?_); (case side1 => exact bD ((Kd.R_reads' HO108.out).2.2)); (case side2 => exact (Kd.R_reads' HO108.out).2.1); rintro e w40 ⟨v110, rfl, ho0, hb⟩; refine ⟨_, rfl, ?_⟩; have HO111 := am (Kd.R_lower (Kd.R_new' ho0 (Kd.R_lt (bC HO103.out))) (below_size (bB HB.out))); replace HO103 := am (Kd.R_elder' (bC HO103.out) (Kd.R_base ho0) hb); replace HO108 := am (Kd.R_below (bC HO108.out) hb); replace BK105 := am (blk_below (bA BK105.out) hb); replace HB := am (below_step (bB HB.out) hb); (try clear hb); (try clear hb2); (try clear hk); (try clear hi); (try clear ho0)) | ((with_reducible refine gate_dst (N := 4) rfl ?_); refine box_event ?hg (N := 4) ?hd (cs := #[.slice none 0 0, .int .i64 0]) (t := 27) ?hr ?_; (case hd => rfl); (case hg => rfl); (case hr => first | (go_simp; done) | (go_simp; rfl)); intro gb113 hg w41 hbox hb; have BK113 := am (hbox); have GW113 := am ((by rw [hg]; exact (below_size (bB HB.out)) : w.heap.size ≤ gb113)); have GE113 := am ((by rw [hg]; exact (below_size (bB HB.out)) : w.heap.size ≤ gb113)); have NB105_113 := am ((by rw [hg]; exact Nat.ne_of_lt (blk_lt (g := gb105) (o := .cells #[.slice Ao36 t101.length co36, .int .i64 t104] 27 (0, 0)) (bA BK105.out)) : gb105 ≠ gb113)); have NB113_105 := am ((by rw [hg]; exact Nat.ne_of_gt (blk_lt (g := gb105) (o := .cells #[.slice Ao36 t101.length co36, .int .i64 t104] 27 (0, 0)) (bA BK105.out)) : gb113 ≠ gb105)); replace HO103 := am (Kd.R_below (bC HO103.out) hb); replace HO108 := am (Kd.R_below (bC HO108.out) hb); replace HO111 := am (Kd.R_below (bC HO111.out) hb); replace BK105 := am (blk_below (bA BK105.out) hb); replace HB := am (below_step (bB HB.out) hb); clear hb hbox hg; obtain ⟨Ao42, co42, eo42⟩ := Kd.R_slice HO111.out; subst eo42; have hnb43 := NB113_105.out; have hnc43 := NB105_113.out; have hcz44_0 : w41.cell? ⟨gb113, 0, none⟩ = some (.slice none 0 0) := (blk_cell BK113.out 0).trans rfl; have hcz44_1 : w41.cell? ⟨gb113, 1, none⟩ = some (.int .i64 0) := (blk_cell BK113.out 1).trans rfl; have hfz44_0 := blk_frozen BK113.out 0; have hfz44_1 := blk_frozen BK113.out 1) | ((with_reducible refine gate_callee (f := 21) rfl ?_); refine goesL_ (some 30) rfl rfl Try.func21 (by kernel_rfl) rfl #[.int .i64 0, .int .i64 0] rfl bE ?_; (with_reducible refine (impl_FloatOf.calls k 0 0 t114 t117 true _ A6.out).mono ?_); rintro e w45 ⟨v115, rfl, ho0, hb⟩; refine ⟨_, rfl, ?_⟩; have HO116 := am (Kd.R_lower (Kd.R_new' (Kd.R_new' ho0 (Kd.R_lt (bC ((Kd.R_mono (Kd.R_far (p := ⟨gb113, 1, none⟩) (Kd.R_far (p := ⟨gb113, 0, none⟩) (Kd.R_types HO103.out BK113.out (by decide)) (fun _ hk => hk.2) (.slice Ao42 t109.length co42)) (fun _ hk => hk.2) (.int .i64 t112)) (fun _ h_ => h_.1)))))) (Kd.R_lt (bC ((Kd.R_mono (Kd.R_far (p := ⟨gb113, 1, none⟩) (Kd.R_far (p := ⟨gb113, 0, none⟩) (Kd.R_types HO111.out BK113.out (by decide)) (fun _ hk => hk.2) (.slice Ao42 t109.length co42)) (fun _ hk => hk.2) (.int .i64 t112)) (fun _ h_ => h_.1)))))) (below_size (bB HB.out))); replace HO103 := am (Kd.R_elder' (bC ((Kd.R_mono (Kd.R_far (p := ⟨gb113, 1, none⟩) (Kd.R_far (p := ⟨gb113, 0, none⟩) (Kd.R_types HO103.out BK113.out (by decide)) (fun _ hk => hk.2) (.slice Ao42 t109.length co42)) (fun _ hk => hk.2) (.int .i64 t112)) (fun _ h_ => h_.1)))) (Kd.R_base ho0) hb); replace HO108 := am (Kd.R_below (bC ((Kd.R_mono (Kd.R_far (p := ⟨gb113, 1, none⟩) (Kd.R_far (p := ⟨gb113, 0, none⟩) (Kd.R_types HO108.out BK113.out (by decide)) (fun _ hk => hk.2) (.slice Ao42 t109.length co42)) (fun _ hk => hk.2) (.int .i64 t112)) (fun _ h_ => h_.1)))) hb); replace HO111 := am (Kd.R_elder' (bC ((Kd.R_mono (Kd.R_far (p := ⟨gb113, 1, none⟩) (Kd.R_far (p := ⟨gb113, 0, none⟩) (Kd.R_types HO111.out BK113.out (by decide)) (fun _ hk => hk.2) (.slice Ao42 t109.length co42)) (fun _ hk => hk.2) (.int .i64 t112)) (fun _ h_ => h_.1)))) (Kd.R_base ho0) hb); replace BK105 := am (blk_below (g := gb105) (o := .cells #[.slice Ao36 t101.length co36, .int .i64 t104] 27 (0, 0)) (bG BK105.out NB105_113.out) hb); replace BK113 := am (blk_below (g := gb113) (o := .cells #[.slice Ao42 t109.length co42, .int .i64 t112] 27 (0, 0)) (by (with_reducible repeat (first | refine blk_drewN ?_ _ | refine blk_drew ?_ | refine blk_alloc ?_ _)); refine blk_put (cs := #[.slice Ao42 t109.length co42, .int .i64 0]) ?_ 1 _ rfl; (with_reducible repeat (first | refine blk_drewN ?_ _ | refine blk_drew ?_ | refine blk_alloc ?_ _)); refine blk_put (cs := #[.slice none 0 0, .int .i64 0]) ?_ 0 _ rfl; (with_reducible repeat (first | refine blk_drewN ?_ _ | refine blk_drew ?_ | refine blk_alloc ?_ _)); exact BK113.out) hb); replace HB := am (below_step (bB HB.out) hb); (try clear hb); (try clear hb2); (try clear hk); (try clear hi); (try clear ho0)) | ((with_reducible refine gate_dst (N := 5) rfl ?_); refine box_event ?hg (N := 5) ?hd (cs := #[.slice none 0 0, .int .i64 0]) (t := 27) ?hr ?_; (case hd => rfl); (case hg => rfl); (case hr => first | (go_simp; done) | (go_simp; rfl)); intro gb119 hg w46 hbox hb; have BK119 := am (hbox); have GW119 := am ((by rw [hg]; exact (below_size (bB HB.out)) : w.heap.size ≤ gb119)); have GE119 := am ((by rw [hg]; exact (below_size (bB HB.out)) : w.heap.size ≤ gb119)); have NB105_119 := am ((by rw [hg]; exact Nat.ne_of_lt (blk_lt (g := gb105) (o := .cells #[.slice Ao36 t101.length co36, .int .i64 t104] 27 (0, 0)) (bA BK105.out)) : gb105 ≠ gb119)); have NB119_105 := am ((by rw [hg]; exact Nat.ne_of_gt (blk_lt (g := gb105) (o := .cells #[.slice Ao36 t101.length co36, .int .i64 t104] 27 (0, 0)) (bA BK105.out)) : gb119 ≠ gb105)); have NB113_119 := am ((by rw [hg]; exact Nat.ne_of_lt (blk_lt (g := gb113) (o := .cells #[.slice Ao42 t109.length co42, .int .i64 t112] 27 (0, 0)) (bA BK113.out)) : gb113 ≠ gb119)); have NB119_113 := am ((by rw [hg]; exact Nat.ne_of_gt (blk_lt (g := gb113) (o := .cells #[.slice Ao42 t109.length co42, .int .i64 t112] 27 (0, 0)) (bA BK113.out)) : gb119 ≠ gb113)); replace HO103 := am (Kd.R_below (bC HO103.out) hb); replace HO108 := am (Kd.R_below (bC HO108.out) hb); replace HO111 := am (Kd.R_below (bC HO111.out) hb); replace HO116 := am (Kd.R_below (bC HO116.out) hb); replace BK105 := am (blk_below (bA BK105.out) hb); replace BK113 := am (blk_below (bA BK113.out) hb); replace HB := am (below_step (bB HB.out) hb); clear hb hbox hg; obtain ⟨Ao47, co47, eo47⟩ := Kd.R_slice HO116.out; subst eo47; have hnb48 := NB119_105.out; have hnc48 := NB105_119.out; have hnb49 := NB119_113.out; have hnc49 := NB113_119.out; have hcz50_0 : w46.cell? ⟨gb119, 0, none⟩ = some (.slice none 0 0) := (blk_cell BK119.out 0).trans rfl; have hcz50_1 : w46.cell? ⟨gb119, 1, none⟩ = some (.int .i64 0) := (blk_cell BK119.out 1).trans rfl; have hfz50_0 := blk_frozen BK119.out 0; have hfz50_1 := blk_frozen BK119.out 1; have hcz51_0 : w46.cell? ⟨gb105, 0, none⟩ = some (.slice Ao36 t101.length co36) := (blk_cell BK105.out 0).trans rfl; have hcz51_1 : w46.cell? ⟨gb105, 1, none⟩ = some (.int .i64 t104) := (blk_cell BK105.out 1).trans rfl; have hfz51_0 := blk_frozen BK105.out 0; have hfz51_1 := blk_frozen BK105.out 1; have hcz52_0 : w46.cell? ⟨gb113, 0, none⟩ = some (.slice Ao42 t109.length co42) := (blk_cell BK113.out 0).trans rfl; have hcz52_1 : w46.cell? ⟨gb113, 1, none⟩ = some (.int .i64 t112) := (blk_cell BK113.out 1).trans rfl; have hfz52_0 := blk_frozen BK113.out 0; have hfz52_1 := blk_frozen BK113.out 1) | ((with_reducible refine gate_callee (f := 22) rfl ?_); refine goesL_ (some 36) rfl rfl Try.func22 (by kernel_rfl) rfl #[.agg #[.slice Ao36 t101.length co36, .int .i64 t104], .agg #[.slice Ao42 t109.length co42, .int .i64 t112]] rfl bE ?_; (with_reducible refine (impl_AddFloats.calls k _ _ t101 t104 _ _ t109 t112 t120 t123 t124 _ ?side1 ?side2 ?side3 ?side4 A7.out).mono ?_); (case side1 => refine (Kd.R_reads' (e := 3) (base := w.heap.size) (ok := fun k_ => ((True ∧ NS k_ Ao42 t109 co42) ∧ NS k_ Ao47 t114 co47)) (n := t101.length) (c := co36) ?_).2.2; exact (bC ((Kd.R_mono (Kd.R_far (p := ⟨gb119, 1, none⟩) (Kd.R_far (p := ⟨gb119, 0, none⟩) (Kd.R_types HO103.out BK119.out (by decide)) (fun _ hk => hk.2) (.slice Ao47 t114.length co47)) (fun _ hk => hk.2) (.int .i64 t117)) (fun _ h_ => h_.1))))); (case side2 => exact (Kd.R_reads' HO103.out).2.1); (case side3 => refine (Kd.R_reads' (e := 3) (base := w.heap.size) (ok := fun k_ => ((True ∧ NS k_ Ao36 t101 co36) ∧ NS k_ Ao47 t114 co47)) (n := t109.length) (c := co42) ?_).2.2; exact (bC ((Kd.R_mono (Kd.R_far (p := ⟨gb119, 1, none⟩) (Kd.R_far (p := ⟨gb119, 0, none⟩) (Kd.R_types HO111.out BK119.out (by decide)) (fun _ hk => hk.2) (.slice Ao47 t114.length co47)) (fun _ hk => hk.2) (.int .i64 t117)) (fun _ h_ => h_.1))))); (case side4 => exact (Kd.R_reads' HO111.out).2.1); rintro e w53 ⟨v121, rfl, ho0, hb⟩; refine ⟨_, rfl, ?_⟩; have HO122 := am (Kd.R_lower (Kd.R_new' (Kd.R_new' (Kd.R_new' ho0 (Kd.R_lt (bC ((Kd.R_mono (Kd.R_far (p := ⟨gb119, 1, none⟩) (Kd.R_far (p := ⟨gb119, 0, none⟩) (Kd.R_types HO103.out BK119.out (by decide)) (fun _ hk => hk.2) (.slice Ao47 t114.length co47)) (fun _ hk => hk.2) (.int .i64 t117)) (fun _ h_ => h_.1)))))) (Kd.R_lt (bC ((Kd.R_mono (Kd.R_far (p := ⟨gb119, 1, none⟩) (Kd.R_far (p := ⟨gb119, 0, none⟩) (Kd.R_types HO111.out BK119.out (by decide)) (fun _ hk => hk.2) (.slice Ao47 t114.length co47)) (fun _ hk => hk.2) (.int .i64 t117)) (fun _ h_ => h_.1)))))) (Kd.R_lt (bC ((Kd.R_mono (Kd.R_far (p := ⟨gb119, 1, none⟩) (Kd.R_far (p := ⟨gb119, 0, none⟩) (Kd.R_types HO116.out BK119.out (by decide)) (fun _ hk => hk.2) (.slice Ao47 t114.length co47)) (fun _ hk => hk.2) (.int .i64 t117)) (fun _ h_ => h_.1)))))) (below_size (bB HB.out))); replace HO103 := am (Kd.R_elder' (bC ((Kd.R_mono (Kd.R_far (p := ⟨gb119, 1, none⟩) (Kd.R_far (p := ⟨gb119, 0, none⟩) (Kd.R_types HO103.out BK119.out (by decide)) (fun _ hk => hk.2) (.slice Ao47 t114.length co47)) (fun _ hk => hk.2) (.int .i64 t117)) (fun _ h_ => h_.1)))) (Kd.R_base ho0) hb); replace HO108 := am (Kd.R_below (bC ((Kd.R_mono (Kd.R_far (p := ⟨gb119, 1, none⟩) (Kd.R_far (p := ⟨gb119, 0, none⟩) (Kd.R_types HO108.out BK119.out (by decide)) (fun _ hk => hk.2) (.slice Ao47 t114.length co47)) (fun _ hk => hk.2) (.int .i64 t117)) (fun _ h_ => h_.1)))) hb); replace HO111 := am (Kd.R_elder' (bC ((Kd.R_mono (Kd.R_far (p := ⟨gb119, 1, none⟩) (Kd.R_far (p := ⟨gb119, 0, none⟩) (Kd.R_types HO111.out BK119.out (by decide)) (fun _ hk => hk.2) (.slice Ao47 t114.length co47)) (fun _ hk => hk.2) (.int .i64 t117)) (fun _ h_ => h_.1)))) (Kd.R_base ho0) hb); replace HO116 := am (Kd.R_elder' (bC ((Kd.R_mono (Kd.R_far (p := ⟨gb119, 1, none⟩) (Kd.R_far (p := ⟨gb119, 0, none⟩) (Kd.R_types HO116.out BK119.out (by decide)) (fun _ hk => hk.2) (.slice Ao47 t114.length co47)) (fun _ hk => hk.2) (.int .i64 t117)) (fun _ h_ => h_.1)))) (Kd.R_base ho0) hb); replace BK105 := am (blk_below (g := gb105) (o := .cells #[.slice Ao36 t101.length co36, .int .i64 t104] 27 (0, 0)) (bG BK105.out NB105_119.out) hb); replace BK113 := am (blk_below (g := gb113) (o := .cells #[.slice Ao42 t109.length co42, .int .i64 t112] 27 (0, 0)) (bG BK113.out NB113_119.out) hb); replace BK119 := am (blk_below (g := gb119) (o := .cells #[.slice Ao47 t114.length co47, .int .i64 t117] 27 (0, 0)) (by (with_reducible repeat (first | refine blk_drewN ?_ _ | refine blk_drew ?_ | refine blk_alloc ?_ _)); refine blk_put (cs := #[.slice Ao47 t114.length co47, .int .i64 0]) ?_ 1 _ rfl; (with_reducible repeat (first | refine blk_drewN ?_ _ | refine blk_drew ?_ | refine blk_alloc ?_ _)); refine blk_put (cs := #[.slice none 0 0, .int .i64 0]) ?_ 0 _ rfl; (with_reducible repeat (first | refine blk_drewN ?_ _ | refine blk_drew ?_ | refine blk_alloc ?_ _)); exact BK119.out) hb); replace HB := am (below_step (bB HB.out) hb); (try clear hb); (try clear hb2); (try clear hk); (try clear hi); (try clear ho0); clear A7) | ((with_reducible refine gate_dst (N := 7) rfl ?_); refine box_event ?hg (N := 7) ?hd (cs := #[.slice none 0 0, .int .i64 0]) (t := 27) ?hr ?_; (case hd => rfl); (case hg => rfl); (case hr => first | (go_simp; done) | (go_simp; rfl)); intro gb125 hg w54 hbox hb; have BK125 := am (hbox); have GW125 := am ((by rw [hg]; exact (below_size (bB HB.out)) : w.heap.size ≤ gb125)); have GE125 := am ((by rw [hg]; exact (below_size (bB HB.out)) : w.heap.size ≤ gb125)); have NB105_125 := am ((by rw [hg]; exact Nat.ne_of_lt (blk_lt (g := gb105) (o := .cells #[.slice Ao36 t101.length co36, .int .i64 t104] 27 (0, 0)) (bA BK105.out)) : gb105 ≠ gb125)); have NB125_105 := am ((by rw [hg]; exact Nat.ne_of_gt (blk_lt (g := gb105) (o := .cells #[.slice Ao36 t101.length co36, .int .i64 t104] 27 (0, 0)) (bA BK105.out)) : gb125 ≠ gb105)); have NB113_125 := am ((by rw [hg]; exact Nat.ne_of_lt (blk_lt (g := gb113) (o := .cells #[.slice Ao42 t109.length co42, .int .i64 t112] 27 (0, 0)) (bA BK113.out)) : gb113 ≠ gb125)); have NB125_113 := am ((by rw [hg]; exact Nat.ne_of_gt (blk_lt (g := gb113) (o := .cells #[.slice Ao42 t109.length co42, .int .i64 t112] 27 (0, 0)) (bA BK113.out)) : gb125 ≠ gb113)); have NB119_125 := am ((by rw [hg]; exact Nat.ne_of_lt (blk_lt (g := gb119) (o := .cells #[.slice Ao47 t114.length co47, .int .i64 t117] 27 (0, 0)) (bA BK119.out)) : gb119 ≠ gb125)); have NB125_119 := am ((by rw [hg]; exact Nat.ne_of_gt (blk_lt (g := gb119) (o := .cells #[.slice Ao47 t114.length co47, .int .i64 t117] 27 (0, 0)) (bA BK119.out)) : gb125 ≠ gb119)); replace HO103 := am (Kd.R_below (bC HO103.out) hb); replace HO108 := am (Kd.R_below (bC HO108.out) hb); replace HO111 := am (Kd.R_below (bC HO111.out) hb); replace HO116 := am (Kd.R_below (bC HO116.out) hb); replace HO122 := am (Kd.R_below (bC HO122.out) hb); replace BK105 := am (blk_below (bA BK105.out) hb); replace BK113 := am (blk_below (bA BK113.out) hb); replace BK119 := am (blk_below (bA BK119.out) hb); replace HB := am (below_step (bB HB.out) hb); clear hb hbox hg; obtain ⟨Ao55, co55, eo55⟩ := Kd.R_slice HO122.out; subst eo55; have hnb56 := NB125_105.out; have hnc56 := NB105_125.out; have hnb57 := NB125_113.out; have hnc57 := NB113_125.out; have hnb58 := NB125_119.out; have hnc58 := NB119_125.out; have hcz59_0 : w54.cell? ⟨gb125, 0, none⟩ = some (.slice none 0 0) := (blk_cell BK125.out 0).trans rfl; have hcz59_1 : w54.cell? ⟨gb125, 1, none⟩ = some (.int .i64 0) := (blk_cell BK125.out 1).trans rfl; have hfz59_0 := blk_frozen BK125.out 0; have hfz59_1 := blk_frozen BK125.out 1; have hcz60_0 : w54.cell? ⟨gb113, 0, none⟩ = some (.slice Ao42 t109.length co42) := (blk_cell BK113.out 0).trans rfl; have hcz60_1 : w54.cell? ⟨gb113, 1, none⟩ = some (.int .i64 t112) := (blk_cell BK113.out 1).trans rfl; have hfz60_0 := blk_frozen BK113.out 0; have hfz60_1 := blk_frozen BK113.out 1; have hcz61_0 : w54.cell? ⟨gb105, 0, none⟩ = some (.slice Ao36 t101.length co36) := (blk_cell BK105.out 0).trans rfl; have hcz61_1 : w54.cell? ⟨gb105, 1, none⟩ = some (.int .i64 t104) := (blk_cell BK105.out 1).trans rfl; have hfz61_0 := blk_frozen BK105.out 0; have hfz61_1 := blk_frozen BK105.out 1) | ((with_reducible refine gate_callee (f := 22) rfl ?_); refine goesL_ (some 42) rfl rfl Try.func22 (by kernel_rfl) rfl #[.agg #[.slice Ao42 t109.length co42, .int .i64 t112], .agg #[.slice Ao36 t101.length co36, .int .i64 t104]] rfl bE ?_; (with_reducible refine (impl_AddFloats.calls k _ _ t109 t112 _ _ t101 t104 t126 t129 t130 _ ?side1 ?side2 ?side3 ?side4 A8.out).mono ?_); (case side1 => refine (Kd.R_reads' (e := 3) (base := w.heap.size) (ok := fun k_ => (((True ∧ NS k_ Ao36 t101 co36) ∧ NS k_ Ao47 t114 co47) ∧ NS k_ Ao55 t120 co55)) (n := t109.length) (c := co42) ?_).2.2; exact (bC ((Kd.R_mono (Kd.R_far (p := ⟨gb125, 1, none⟩) (Kd.R_far (p := ⟨gb125, 0, none⟩) (Kd.R_types HO111.out BK125.out (by decide)) (fun _ hk => hk.2) (.slice Ao55 t120.length co55)) (fun _ hk => hk.2) (.int .i64 t123)) (fun _ h_ => h_.1))))); (case side2 => exact (Kd.R_reads' HO111.out).2.1); (case side3 => refine (Kd.R_reads' (e := 3) (base := w.heap.size) (ok := fun k_ => (((True ∧ NS k_ Ao42 t109 co42) ∧ NS k_ Ao47 t114 co47) ∧ NS k_ Ao55 t120 co55)) (n := t101.length) (c := co36) ?_).2.2; exact (bC ((Kd.R_mono (Kd.R_far (p := ⟨gb125, 1, none⟩) (Kd.R_far (p := ⟨gb125, 0, none⟩) (Kd.R_types HO103.out BK125.out (by decide)) (fun _ hk => hk.2) (.slice Ao55 t120.length co55)) (fun _ hk => hk.2) (.int .i64 t123)) (fun _ h_ => h_.1))))); (case side4 => exact (Kd.R_reads' HO103.out).2.1); rintro e w62 ⟨v127, rfl, ho0, hb⟩; refine ⟨_, rfl, ?_⟩; have HO128 := am (Kd.R_lower (Kd.R_new' (Kd.R_new' (Kd.R_new' (Kd.R_new' ho0 (Kd.R_lt (bC ((Kd.R_mono (Kd.R_far (p := ⟨gb125, 1, none⟩) (Kd.R_far (p := ⟨gb125, 0, none⟩) (Kd.R_types HO103.out BK125.out (by decide)) (fun _ hk => hk.2) (.slice Ao55 t120.length co55)) (fun _ hk => hk.2) (.int .i64 t123)) (fun _ h_ => h_.1)))))) (Kd.R_lt (bC ((Kd.R_mono (Kd.R_far (p := ⟨gb125, 1, none⟩) (Kd.R_far (p := ⟨gb125, 0, none⟩) (Kd.R_types HO111.out BK125.out (by decide)) (fun _ hk => hk.2) (.slice Ao55 t120.length co55)) (fun _ hk => hk.2) (.int .i64 t123)) (fun _ h_ => h_.1)))))) (Kd.R_lt (bC ((Kd.R_mono (Kd.R_far (p := ⟨gb125, 1, none⟩) (Kd.R_far (p := ⟨gb125, 0, none⟩) (Kd.R_types HO116.out BK125.out (by decide)) (fun _ hk => hk.2) (.slice Ao55 t120.length co55)) (fun _ hk => hk.2) (.int .i64 t123)) (fun _ h_ => h_.1)))))) (Kd.R_lt (bC ((Kd.R_mono (Kd.R_far (p := ⟨gb125, 1, none⟩) (Kd.R_far (p := ⟨gb125, 0, none⟩) (Kd.R_types HO122.out BK125.out (by decide)) (fun _ hk => hk.2) (.slice Ao55 t120.length co55)) (fun _ hk => hk.2) (.int .i64 t123)) (fun _ h_ => h_.1)))))) (below_size (bB HB.out))); replace HO103 := am (Kd.R_elder' (bC ((Kd.R_mono (Kd.R_far (p := ⟨gb125, 1, none⟩) (Kd.R_far (p := ⟨gb125, 0, none⟩) (Kd.R_types HO103.out BK125.out (by decide)) (fun _ hk => hk.2) (.slice Ao55 t120.length co55)) (fun _ hk => hk.2) (.int .i64 t123)) (fun _ h_ => h_.1)))) (Kd.R_base ho0) hb); replace HO108 := am (Kd.R_below (bC ((Kd.R_mono (Kd.R_far (p := ⟨gb125, 1, none⟩) (Kd.R_far (p := ⟨gb125, 0, none⟩) (Kd.R_types HO108.out BK125.out (by decide)) (fun _ hk => hk.2) (.slice Ao55 t120.length co55)) (fun _ hk => hk.2) (.int .i64 t123)) (fun _ h_ => h_.1)))) hb); replace HO111 := am (Kd.R_elder' (bC ((Kd.R_mono (Kd.R_far (p := ⟨gb125, 1, none⟩) (Kd.R_far (p := ⟨gb125, 0, none⟩) (Kd.R_types HO111.out BK125.out (by decide)) (fun _ hk => hk.2) (.slice Ao55 t120.length co55)) (fun _ hk => hk.2) (.int .i64 t123)) (fun _ h_ => h_.1)))) (Kd.R_base ho0) hb); replace HO116 := am (Kd.R_elder' (bC ((Kd.R_mono (Kd.R_far (p := ⟨gb125, 1, none⟩) (Kd.R_far (p := ⟨gb125, 0, none⟩) (Kd.R_types HO116.out BK125.out (by decide)) (fun _ hk => hk.2) (.slice Ao55 t120.length co55)) (fun _ hk => hk.2) (.int .i64 t123)) (fun _ h_ => h_.1)))) (Kd.R_base ho0) hb); replace HO122 := am (Kd.R_elder' (bC ((Kd.R_mono (Kd.R_far (p := ⟨gb125, 1, none⟩) (Kd.R_far (p := ⟨gb125, 0, none⟩) (Kd.R_types HO122.out BK125.out (by decide)) (fun _ hk => hk.2) (.slice Ao55 t120.length co55)) (fun _ hk => hk.2) (.int .i64 t123)) (fun _ h_ => h_.1)))) (Kd.R_base ho0) hb); replace BK105 := am (blk_below (g := gb105) (o := .cells #[.slice Ao36 t101.length co36, .int .i64 t104] 27 (0, 0)) (bG BK105.out NB105_125.out) hb); replace BK113 := am (blk_below (g := gb113) (o := .cells #[.slice Ao42 t109.length co42, .int .i64 t112] 27 (0, 0)) (bG BK113.out NB113_125.out) hb); replace BK119 := am (blk_below (g := gb119) (o := .cells #[.slice Ao47 t114.length co47, .int .i64 t117] 27 (0, 0)) (bG BK119.out NB119_125.out) hb); replace BK125 := am (blk_below (g := gb125) (o := .cells #[.slice Ao55 t120.length co55, .int .i64 t123] 27 (0, 0)) (by (with_reducible repeat (first | refine blk_drewN ?_ _ | refine blk_drew ?_ | refine blk_alloc ?_ _)); refine blk_put (cs := #[.slice Ao55 t120.length co55, .int .i64 0]) ?_ 1 _ rfl; (with_reducible repeat (first | refine blk_drewN ?_ _ | refine blk_drew ?_ | refine blk_alloc ?_ _)); refine blk_put (cs := #[.slice none 0 0, .int .i64 0]) ?_ 0 _ rfl; (with_reducible repeat (first | refine blk_drewN ?_ _ | refine blk_drew ?_ | refine blk_alloc ?_ _)); exact BK125.out) hb); replace HB := am (below_step (bB HB.out) hb); (try clear hb); (try clear hb2); (try clear hk); (try clear hi); (try clear ho0); clear A8) | ((with_reducible refine gate_dst (N := 9) rfl ?_); refine box_event ?hg (N := 9) ?hd (cs := #[.slice none 0 0, .int .i64 0]) (t := 27) ?hr ?_; (case hd => rfl); (case hg => rfl); (case hr => first | (go_simp; done) | (go_simp; rfl)); intro gb131 hg w63 hbox hb; have BK131 := am (hbox); have GW131 := am ((by rw [hg]; exact (below_size (bB HB.out)) : w.heap.size ≤ gb131)); have GE131 := am ((by rw [hg]; exact (below_size (bB HB.out)) : w.heap.size ≤ gb131)); have NB105_131 := am ((by rw [hg]; exact Nat.ne_of_lt (blk_lt (g := gb105) (o := .cells #[.slice Ao36 t101.length co36, .int .i64 t104] 27 (0, 0)) (bA BK105.out)) : gb105 ≠ gb131)); have NB131_105 := am ((by rw [hg]; exact Nat.ne_of_gt (blk_lt (g := gb105) (o := .cells #[.slice Ao36 t101.length co36, .int .i64 t104] 27 (0, 0)) (bA BK105.out)) : gb131 ≠ gb105)); have NB113_131 := am ((by rw [hg]; exact Nat.ne_of_lt (blk_lt (g := gb113) (o := .cells #[.slice Ao42 t109.length co42, .int .i64 t112] 27 (0, 0)) (bA BK113.out)) : gb113 ≠ gb131)); have NB131_113 := am ((by rw [hg]; exact Nat.ne_of_gt (blk_lt (g := gb113) (o := .cells #[.slice Ao42 t109.length co42, .int .i64 t112] 27 (0, 0)) (bA BK113.out)) : gb131 ≠ gb113)); have NB119_131 := am ((by rw [hg]; exact Nat.ne_of_lt (blk_lt (g := gb119) (o := .cells #[.slice Ao47 t114.length co47, .int .i64 t117] 27 (0, 0)) (bA BK119.out)) : gb119 ≠ gb131)); have NB131_119 := am ((by rw [hg]; exact Nat.ne_of_gt (blk_lt (g := gb119) (o := .cells #[.slice Ao47 t114.length co47, .int .i64 t117] 27 (0, 0)) (bA BK119.out)) : gb131 ≠ gb119)); have NB125_131 := am ((by rw [hg]; exact Nat.ne_of_lt (blk_lt (g := gb125) (o := .cells #[.slice Ao55 t120.length co55, .int .i64 t123] 27 (0, 0)) (bA BK125.out)) : gb125 ≠ gb131)); have NB131_125 := am ((by rw [hg]; exact Nat.ne_of_gt (blk_lt (g := gb125) (o := .cells #[.slice Ao55 t120.length co55, .int .i64 t123] 27 (0, 0)) (bA BK125.out)) : gb131 ≠ gb125)); replace HO103 := am (Kd.R_below (bC HO103.out) hb); replace HO108 := am (Kd.R_below (bC HO108.out) hb); replace HO111 := am (Kd.R_below (bC HO111.out) hb); replace HO116 := am (Kd.R_below (bC HO116.out) hb); replace HO122 := am (Kd.R_below (bC HO122.out) hb); replace HO128 := am (Kd.R_below (bC HO128.out) hb); replace BK105 := am (blk_below (bA BK105.out) hb); replace BK113 := am (blk_below (bA BK113.out) hb); replace BK119 := am (blk_below (bA BK119.out) hb); replace BK125 := am (blk_below (bA BK125.out) hb); replace HB := am (below_step (bB HB.out) hb); clear hb hbox hg; obtain ⟨Ao64, co64, eo64⟩ := Kd.R_slice HO128.out; subst eo64; have hnb65 := NB131_105.out; have hnc65 := NB105_131.out; have hnb66 := NB131_113.out; have hnc66 := NB113_131.out; have hnb67 := NB131_119.out; have hnc67 := NB119_131.out; have hnb68 := NB131_125.out; have hnc68 := NB125_131.out; have hcz69_0 : w63.cell? ⟨gb131, 0, none⟩ = some (.slice none 0 0) := (blk_cell BK131.out 0).trans rfl; have hcz69_1 : w63.cell? ⟨gb131, 1, none⟩ = some (.int .i64 0) := (blk_cell BK131.out 1).trans rfl; have hfz69_0 := blk_frozen BK131.out 0; have hfz69_1 := blk_frozen BK131.out 1; have hcz70_0 : w63.cell? ⟨gb105, 0, none⟩ = some (.slice Ao36 t101.length co36) := (blk_cell BK105.out 0).trans rfl; have hcz70_1 : w63.cell? ⟨gb105, 1, none⟩ = some (.int .i64 t104) := (blk_cell BK105.out 1).trans rfl; have hfz70_0 := blk_frozen BK105.out 0; have hfz70_1 := blk_frozen BK105.out 1; have hcz71_0 : w63.cell? ⟨gb113, 0, none⟩ = some (.slice Ao42 t109.length co42) := (blk_cell BK113.out 0).trans rfl; have hcz71_1 : w63.cell? ⟨gb113, 1, none⟩ = some (.int .i64 t112) := (blk_cell BK113.out 1).trans rfl; have hfz71_0 := blk_frozen BK113.out 0; have hfz71_1 := blk_frozen BK113.out 1) | ((with_reducible refine gate_callee (f := 38) rfl ?_); refine goesL_ (some 48) rfl rfl Try.func38 (by kernel_rfl) rfl #[.agg #[.slice Ao36 t101.length co36, .int .i64 t104], .agg #[.slice Ao42 t109.length co42, .int .i64 t112]] rfl bE ?_; (with_reducible refine (impl_SubFloats.calls k _ _ t101 t104 _ _ t109 t112 t132 t135 t136 _ ?side1 ?side2 ?side3 ?side4 A9.out).mono ?_); (case side1 => refine (Kd.R_reads' (e := 3) (base := w.heap.size) (ok := fun k_ => ((((True ∧ NS k_ Ao42 t109 co42) ∧ NS k_ Ao47 t114 co47) ∧ NS k_ Ao55 t120 co55) ∧ NS k_ Ao64 t126 co64)) (n := t101.length) (c := co36) ?_).2.2; exact (bC ((Kd.R_mono (Kd.R_far (p := ⟨gb131, 1, none⟩) (Kd.R_far (p := ⟨gb131, 0, none⟩) (Kd.R_types HO103.out BK131.out (by decide)) (fun _ hk => hk.2) (.slice Ao64 t126.length co64)) (fun _ hk => hk.2) (.int .i64 t129)) (fun _ h_ => h_.1))))); (case side2 => exact (Kd.R_reads' HO103.out).2.1); (case side3 => refine (Kd.R_reads' (e := 3) (base := w.heap.size) (ok := fun k_ => ((((True ∧ NS k_ Ao36 t101 co36) ∧ NS k_ Ao47 t114 co47) ∧ NS k_ Ao55 t120 co55) ∧ NS k_ Ao64 t126 co64)) (n := t109.length) (c := co42) ?_).2.2; exact (bC ((Kd.R_mono (Kd.R_far (p := ⟨gb131, 1, none⟩) (Kd.R_far (p := ⟨gb131, 0, none⟩) (Kd.R_types HO111.out BK131.out (by decide)) (fun _ hk => hk.2) (.slice Ao64 t126.length co64)) (fun _ hk => hk.2) (.int .i64 t129)) (fun _ h_ => h_.1))))); (case side4 => exact (Kd.R_reads' HO111.out).2.1); rintro e w72 ⟨v133, rfl, ho0, hb⟩; refine ⟨_, rfl, ?_⟩; have HO134 := am (Kd.R_lower (Kd.R_new' (Kd.R_new' (Kd.R_new' (Kd.R_new' (Kd.R_new' ho0 (Kd.R_lt (bC ((Kd.R_mono (Kd.R_far (p := ⟨gb131, 1, none⟩) (Kd.R_far (p := ⟨gb131, 0, none⟩) (Kd.R_types HO103.out BK131.out (by decide)) (fun _ hk => hk.2) (.slice Ao64 t126.length co64)) (fun _ hk => hk.2) (.int .i64 t129)) (fun _ h_ => h_.1)))))) (Kd.R_lt (bC ((Kd.R_mono (Kd.R_far (p := ⟨gb131, 1, none⟩) (Kd.R_far (p := ⟨gb131, 0, none⟩) (Kd.R_types HO111.out BK131.out (by decide)) (fun _ hk => hk.2) (.slice Ao64 t126.length co64)) (fun _ hk => hk.2) (.int .i64 t129)) (fun _ h_ => h_.1)))))) (Kd.R_lt (bC ((Kd.R_mono (Kd.R_far (p := ⟨gb131, 1, none⟩) (Kd.R_far (p := ⟨gb131, 0, none⟩) (Kd.R_types HO116.out BK131.out (by decide)) (fun _ hk => hk.2) (.slice Ao64 t126.length co64)) (fun _ hk => hk.2) (.int .i64 t129)) (fun _ h_ => h_.1)))))) (Kd.R_lt (bC ((Kd.R_mono (Kd.R_far (p := ⟨gb131, 1, none⟩) (Kd.R_far (p := ⟨gb131, 0, none⟩) (Kd.R_types HO122.out BK131.out (by decide)) (fun _ hk => hk.2) (.slice Ao64 t126.length co64)) (fun _ hk => hk.2) (.int .i64 t129)) (fun _ h_ => h_.1)))))) (Kd.R_lt (bC ((Kd.R_mono (Kd.R_far (p := ⟨gb131, 1, none⟩) (Kd.R_far (p := ⟨gb131, 0, none⟩) (Kd.R_types HO128.out BK131.out (by decide)) (fun _ hk => hk.2) (.slice Ao64 t126.length co64)) (fun _ hk => hk.2) (.int .i64 t129)) (fun _ h_ => h_.1)))))) (below_size (bB HB.out))); replace HO103 := am (Kd.R_elder' (bC ((Kd.R_mono (Kd.R_far (p := ⟨gb131, 1, none⟩) (Kd.R_far (p := ⟨gb131, 0, none⟩) (Kd.R_types HO103.out BK131.out (by decide)) (fun _ hk => hk.2) (.slice Ao64 t126.length co64)) (fun _ hk => hk.2) (.int .i64 t129)) (fun _ h_ => h_.1)))) (Kd.R_base ho0) hb); replace HO108 := am (Kd.R_below (bC ((Kd.R_mono (Kd.R_far (p := ⟨gb131, 1, none⟩) (Kd.R_far (p := ⟨gb131, 0, none⟩) (Kd.R_types HO108.out BK131.out (by decide)) (fun _ hk => hk.2) (.slice Ao64 t126.length co64)) (fun _ hk => hk.2) (.int .i64 t129)) (fun _ h_ => h_.1)))) hb); replace HO111 := am (Kd.R_elder' (bC ((Kd.R_mono (Kd.R_far (p := ⟨gb131, 1, none⟩) (Kd.R_far (p := ⟨gb131, 0, none⟩) (Kd.R_types HO111.out BK131.out (by decide)) (fun _ hk => hk.2) (.slice Ao64 t126.length co64)) (fun _ hk => hk.2) (.int .i64 t129)) (fun _ h_ => h_.1)))) (Kd.R_base ho0) hb); replace HO116 := am (Kd.R_elder' (bC ((Kd.R_mono (Kd.R_far (p := ⟨gb131, 1, none⟩) (Kd.R_far (p := ⟨gb131, 0, none⟩) (Kd.R_types HO116.out BK131.out (by decide)) (fun _ hk => hk.2) (.slice Ao64 t126.length co64)) (fun _ hk => hk.2) (.int .i64 t129)) (fun _ h_ => h_.1)))) (Kd.R_base ho0) hb); replace HO122 := am (Kd.R_elder' (bC ((Kd.R_mono (Kd.R_far (p := ⟨gb131, 1, none⟩) (Kd.R_far (p := ⟨gb131, 0, none⟩) (Kd.R_types HO122.out BK131.out (by decide)) (fun _ hk => hk.2) (.slice Ao64 t126.length co64)) (fun _ hk => hk.2) (.int .i64 t129)) (fun _ h_ => h_.1)))) (Kd.R_base ho0) hb); replace HO128 := am (Kd.R_elder' (bC ((Kd.R_mono (Kd.R_far (p := ⟨gb131, 1, none⟩) (Kd.R_far (p := ⟨gb131, 0, none⟩) (Kd.R_types HO128.out BK131.out (by decide)) (fun _ hk => hk.2) (.slice Ao64 t126.length co64)) (fun _ hk => hk.2) (.int .i64 t129)) (fun _ h_ => h_.1)))) (Kd.R_base ho0) hb); replace BK105 := am (blk_below (g := gb105) (o := .cells #[.slice Ao36 t101.length co36, .int .i64 t104] 27 (0, 0)) (bG BK105.out NB105_131.out) hb); replace BK113 := am (blk_below (g := gb113) (o := .cells #[.slice Ao42 t109.length co42, .int .i64 t112] 27 (0, 0)) (bG BK113.out NB113_131.out) hb); replace BK119 := am (blk_below (g := gb119) (o := .cells #[.slice Ao47 t114.length co47, .int .i64 t117] 27 (0, 0)) (bG BK119.out NB119_131.out) hb); replace BK125 := am (blk_below (g := gb125) (o := .cells #[.slice Ao55 t120.length co55, .int .i64 t123] 27 (0, 0)) (bG BK125.out NB125_131.out) hb); replace BK131 := am (blk_below (g := gb131) (o := .cells #[.slice Ao64 t126.length co64, .int .i64 t129] 27 (0, 0)) (by (with_reducible repeat (first | refine blk_drewN ?_ _ | refine blk_drew ?_ | refine blk_alloc ?_ _)); refine blk_put (cs := #[.slice Ao64 t126.length co64, .int .i64 0]) ?_ 1 _ rfl; (with_reducible repeat (first | refine blk_drewN ?_ _ | refine blk_drew ?_ | refine blk_alloc ?_ _)); refine blk_put (cs := #[.slice none 0 0, .int .i64 0]) ?_ 0 _ rfl; (with_reducible repeat (first | refine blk_drewN ?_ _ | refine blk_drew ?_ | refine blk_alloc ?_ _)); exact BK131.out) hb); replace HB := am (below_step (bB HB.out) hb); (try clear hb); (try clear hb2); (try clear hk); (try clear hi); (try clear ho0); clear A9) | ((with_reducible refine gate_dst (N := 11) rfl ?_); refine box_event ?hg (N := 11) ?hd (cs := #[.slice none 0 0, .int .i64 0]) (t := 27) ?hr ?_; (case hd => rfl); (case hg => rfl); (case hr => first | (go_simp; done) | (go_simp; rfl)); intro gb137 hg w73 hbox hb; have BK137 := am (hbox); have GW137 := am ((by rw [hg]; exact (below_size (bB HB.out)) : w.heap.size ≤ gb137)); have GE137 := am ((by rw [hg]; exact (below_size (bB HB.out)) : w.heap.size ≤ gb137)); have NB105_137 := am ((by rw [hg]; exact Nat.ne_of_lt (blk_lt (g := gb105) (o := .cells #[.slice Ao36 t101.length co36, .int .i64 t104] 27 (0, 0)) (bA BK105.out)) : gb105 ≠ gb137)); have NB137_105 := am ((by rw [hg]; exact Nat.ne_of_gt (blk_lt (g := gb105) (o := .cells #[.slice Ao36 t101.length co36, .int .i64 t104] 27 (0, 0)) (bA BK105.out)) : gb137 ≠ gb105)); have NB113_137 := am ((by rw [hg]; exact Nat.ne_of_lt (blk_lt (g := gb113) (o := .cells #[.slice Ao42 t109.length co42, .int .i64 t112] 27 (0, 0)) (bA BK113.out)) : gb113 ≠ gb137)); have NB137_113 := am ((by rw [hg]; exact Nat.ne_of_gt (blk_lt (g := gb113) (o := .cells #[.slice Ao42 t109.length co42, .int .i64 t112] 27 (0, 0)) (bA BK113.out)) : gb137 ≠ gb113)); have NB119_137 := am ((by rw [hg]; exact Nat.ne_of_lt (blk_lt (g := gb119) (o := .cells #[.slice Ao47 t114.length co47, .int .i64 t117] 27 (0, 0)) (bA BK119.out)) : gb119 ≠ gb137)); have NB137_119 := am ((by rw [hg]; exact Nat.ne_of_gt (blk_lt (g := gb119) (o := .cells #[.slice Ao47 t114.length co47, .int .i64 t117] 27 (0, 0)) (bA BK119.out)) : gb137 ≠ gb119)); have NB125_137 := am ((by rw [hg]; exact Nat.ne_of_lt (blk_lt (g := gb125) (o := .cells #[.slice Ao55 t120.length co55, .int .i64 t123] 27 (0, 0)) (bA BK125.out)) : gb125 ≠ gb137)); have NB137_125 := am ((by rw [hg]; exact Nat.ne_of_gt (blk_lt (g := gb125) (o := .cells #[.slice Ao55 t120.length co55, .int .i64 t123] 27 (0, 0)) (bA BK125.out)) : gb137 ≠ gb125)); have NB131_137 := am ((by rw [hg]; exact Nat.ne_of_lt (blk_lt (g := gb131) (o := .cells #[.slice Ao64 t126.length co64, .int .i64 t129] 27 (0, 0)) (bA BK131.out)) : gb131 ≠ gb137)); have NB137_131 := am ((by rw [hg]; exact Nat.ne_of_gt (blk_lt (g := gb131) (o := .cells #[.slice Ao64 t126.length co64, .int .i64 t129] 27 (0, 0)) (bA BK131.out)) : gb137 ≠ gb131)); replace HO103 := am (Kd.R_below (bC HO103.out) hb); replace HO108 := am (Kd.R_below (bC HO108.out) hb); replace HO111 := am (Kd.R_below (bC HO111.out) hb); replace HO116 := am (Kd.R_below (bC HO116.out) hb); replace HO122 := am (Kd.R_below (bC HO122.out) hb); replace HO128 := am (Kd.R_below (bC HO128.out) hb); replace HO134 := am (Kd.R_below (bC HO134.out) hb); replace BK105 := am (blk_below (bA BK105.out) hb); replace BK113 := am (blk_below (bA BK113.out) hb); replace BK119 := am (blk_below (bA BK119.out) hb); replace BK125 := am (blk_below (bA BK125.out) hb); replace BK131 := am (blk_below (bA BK131.out) hb); replace HB := am (below_step (bB HB.out) hb); clear hb hbox hg; obtain ⟨Ao74, co74, eo74⟩ := Kd.R_slice HO134.out; subst eo74; have hnb75 := NB137_105.out; have hnc75 := NB105_137.out; have hnb76 := NB137_113.out; have hnc76 := NB113_137.out; have hnb77 := NB137_119.out; have hnc77 := NB119_137.out; have hnb78 := NB137_125.out; have hnc78 := NB125_137.out; have hnb79 := NB137_131.out; have hnc79 := NB131_137.out; have hcz80_0 : w73.cell? ⟨gb137, 0, none⟩ = some (.slice none 0 0) := (blk_cell BK137.out 0).trans rfl; have hcz80_1 : w73.cell? ⟨gb137, 1, none⟩ = some (.int .i64 0) := (blk_cell BK137.out 1).trans rfl; have hfz80_0 := blk_frozen BK137.out 0; have hfz80_1 := blk_frozen BK137.out 1))
 have n0_ : Aside0 (Kd.R (Kd.int .i64) 3 ((w73.setCell ⟨gb137, 0, none⟩ (.slice Ao74 t132.length co74)).setCell ⟨gb137, 1, none⟩ (.int .i64 t135)) w.heap.size (fun k_ => NS k_ Ao42 t109 co42 ∧ NS k_ Ao47 t114 co47 ∧ NS k_ Ao55 t120 co55 ∧ NS k_ Ao64 t126 co64 ∧ NS k_ Ao74 t132 co74) (.slice Ao36 t101.length co36) t101) := ⟨by (with_reducible repeat (first | apply Kd.R_alloc | apply Kd.R_drewN | apply Kd.R_drew)); exact rS HO103.out BK137.out⟩
 have n1_ : Aside0 (Kd.R (Kd.int .u8) 5 ((w73.setCell ⟨gb137, 0, none⟩ (.slice Ao74 t132.length co74)).setCell ⟨gb137, 1, none⟩ (.int .i64 t135)) w.heap.size (fun _ => True) (.slice Ao39 t106.length co39) t106) := ⟨by (with_reducible repeat (first | apply Kd.R_alloc | apply Kd.R_drewN | apply Kd.R_drew)); exact rS HO108.out BK137.out⟩
 have n2_ : Aside0 (Kd.R (Kd.int .i64) 3 ((w73.setCell ⟨gb137, 0, none⟩ (.slice Ao74 t132.length co74)).setCell ⟨gb137, 1, none⟩ (.int .i64 t135)) w.heap.size (fun k_ => NS k_ Ao36 t101 co36 ∧ NS k_ Ao47 t114 co47 ∧ NS k_ Ao55 t120 co55 ∧ NS k_ Ao64 t126 co64 ∧ NS k_ Ao74 t132 co74) (.slice Ao42 t109.length co42) t109) := ⟨by (with_reducible repeat (first | apply Kd.R_alloc | apply Kd.R_drewN | apply Kd.R_drew)); exact rS HO111.out BK137.out⟩
 have n3_ : Aside0 (Kd.R (Kd.int .i64) 3 ((w73.setCell ⟨gb137, 0, none⟩ (.slice Ao74 t132.length co74)).setCell ⟨gb137, 1, none⟩ (.int .i64 t135)) w.heap.size (fun k_ => NS k_ Ao36 t101 co36 ∧ NS k_ Ao42 t109 co42 ∧ NS k_ Ao55 t120 co55 ∧ NS k_ Ao64 t126 co64 ∧ NS k_ Ao74 t132 co74) (.slice Ao47 t114.length co47) t114) := ⟨by (with_reducible repeat (first | apply Kd.R_alloc | apply Kd.R_drewN | apply Kd.R_drew)); exact rS HO116.out BK137.out⟩
 have n4_ : Aside0 (Kd.R (Kd.int .i64) 3 ((w73.setCell ⟨gb137, 0, none⟩ (.slice Ao74 t132.length co74)).setCell ⟨gb137, 1, none⟩ (.int .i64 t135)) w.heap.size (fun k_ => NS k_ Ao36 t101 co36 ∧ NS k_ Ao42 t109 co42 ∧ NS k_ Ao47 t114 co47 ∧ NS k_ Ao64 t126 co64 ∧ NS k_ Ao74 t132 co74) (.slice Ao55 t120.length co55) t120) := ⟨by (with_reducible repeat (first | apply Kd.R_alloc | apply Kd.R_drewN | apply Kd.R_drew)); exact rS HO122.out BK137.out⟩
 have n5_ : Aside0 (Kd.R (Kd.int .i64) 3 ((w73.setCell ⟨gb137, 0, none⟩ (.slice Ao74 t132.length co74)).setCell ⟨gb137, 1, none⟩ (.int .i64 t135)) w.heap.size (fun k_ => NS k_ Ao36 t101 co36 ∧ NS k_ Ao42 t109 co42 ∧ NS k_ Ao47 t114 co47 ∧ NS k_ Ao55 t120 co55 ∧ NS k_ Ao74 t132 co74) (.slice Ao64 t126.length co64) t126) := ⟨by (with_reducible repeat (first | apply Kd.R_alloc | apply Kd.R_drewN | apply Kd.R_drew)); exact rS HO128.out BK137.out⟩
 have n6_ : Aside0 (Kd.R (Kd.int .i64) 3 ((w73.setCell ⟨gb137, 0, none⟩ (.slice Ao74 t132.length co74)).setCell ⟨gb137, 1, none⟩ (.int .i64 t135)) w.heap.size (fun k_ => NS k_ Ao36 t101 co36 ∧ NS k_ Ao42 t109 co42 ∧ NS k_ Ao47 t114 co47 ∧ NS k_ Ao55 t120 co55 ∧ NS k_ Ao64 t126 co64) (.slice Ao74 t132.length co74) t132) := ⟨by (with_reducible repeat (first | apply Kd.R_alloc | apply Kd.R_drewN | apply Kd.R_drew)); exact rS HO134.out BK137.out⟩
 have n7_ : Aside0 (((w73.setCell ⟨gb137, 0, none⟩ (.slice Ao74 t132.length co74)).setCell ⟨gb137, 1, none⟩ (.int .i64 t135)).heap[gb105]? = some (.cells #[.slice Ao36 t101.length co36, .int .i64 t104] 27 (0, 0))) := ⟨bG BK105.out NB105_137.out⟩
 have n8_ : Aside0 (((w73.setCell ⟨gb137, 0, none⟩ (.slice Ao74 t132.length co74)).setCell ⟨gb137, 1, none⟩ (.int .i64 t135)).heap[gb113]? = some (.cells #[.slice Ao42 t109.length co42, .int .i64 t112] 27 (0, 0))) := ⟨bG BK113.out NB113_137.out⟩
 have n9_ : Aside0 (((w73.setCell ⟨gb137, 0, none⟩ (.slice Ao74 t132.length co74)).setCell ⟨gb137, 1, none⟩ (.int .i64 t135)).heap[gb119]? = some (.cells #[.slice Ao47 t114.length co47, .int .i64 t117] 27 (0, 0))) := ⟨bG BK119.out NB119_137.out⟩
 have n10_ : Aside0 (((w73.setCell ⟨gb137, 0, none⟩ (.slice Ao74 t132.length co74)).setCell ⟨gb137, 1, none⟩ (.int .i64 t135)).heap[gb125]? = some (.cells #[.slice Ao55 t120.length co55, .int .i64 t123] 27 (0, 0))) := ⟨bG BK125.out NB125_137.out⟩
 have n11_ : Aside0 (((w73.setCell ⟨gb137, 0, none⟩ (.slice Ao74 t132.length co74)).setCell ⟨gb137, 1, none⟩ (.int .i64 t135)).heap[gb131]? = some (.cells #[.slice Ao64 t126.length co64, .int .i64 t129] 27 (0, 0))) := ⟨bG BK131.out NB131_137.out⟩
 have n12_ : Aside0 (((w73.setCell ⟨gb137, 0, none⟩ (.slice Ao74 t132.length co74)).setCell ⟨gb137, 1, none⟩ (.int .i64 t135)).heap[gb137]? = some (.cells #[.slice Ao74 t132.length co74, .int .i64 t135] 27 (0, 0))) := ⟨by (with_reducible repeat (first | refine blk_drewN ?_ _ | refine blk_drew ?_ | refine blk_alloc ?_ _)); refine blk_put (cs := #[.slice Ao74 t132.length co74, .int .i64 0]) ?_ 1 _ rfl; (with_reducible repeat (first | refine blk_drewN ?_ _ | refine blk_drew ?_ | refine blk_alloc ?_ _)); refine blk_put (cs := #[.slice none 0 0, .int .i64 0]) ?_ 0 _ rfl; (with_reducible repeat (first | refine blk_drewN ?_ _ | refine blk_drew ?_ | refine blk_alloc ?_ _)); exact BK137.out⟩
 have n13_ : Aside0 (Below w.heap.size w ((w73.setCell ⟨gb137, 0, none⟩ (.slice Ao74 t132.length co74)).setCell ⟨gb137, 1, none⟩ (.int .i64 t135))) := ⟨bB HB.out⟩
 (try clear HO103); (try clear HO108); (try clear HO111); (try clear HO116); (try clear HO122); (try clear HO128); (try clear HO134); (try clear BK105); (try clear BK113); (try clear BK119); (try clear BK125); (try clear BK131); (try clear BK137); (try clear HB)
 generalize ((w73.setCell ⟨gb137, 0, none⟩ (.slice Ao74 t132.length co74)).setCell ⟨gb137, 1, none⟩ (.int .i64 t135)) = w81 at n0_ n1_ n2_ n3_ n4_ n5_ n6_ n7_ n8_ n9_ n10_ n11_ n12_ n13_ ⊢
 have HO103 := n0_; have HO108 := n1_; have HO111 := n2_; have HO116 := n3_; have HO122 := n4_; have HO128 := n5_; have HO134 := n6_; have BK105 := n7_; have BK113 := n8_; have BK119 := n9_; have BK125 := n10_; have BK131 := n11_; have BK137 := n12_; have HB := n13_; clear n0_ n1_ n2_ n3_ n4_ n5_ n6_ n7_ n8_ n9_ n10_ n11_ n12_ n13_; replace HO103 := am (Kd.R_drew HO103.out); replace HO108 := am (Kd.R_drew HO108.out); replace HO111 := am (Kd.R_drew HO111.out); replace HO116 := am (Kd.R_drew HO116.out); replace HO122 := am (Kd.R_drew HO122.out); replace HO128 := am (Kd.R_drew HO128.out); replace HO134 := am (Kd.R_drew HO134.out); replace BK105 := am (blk_drew BK105.out); replace BK113 := am (blk_drew BK113.out); replace BK119 := am (blk_drew BK119.out); replace BK125 := am (blk_drew BK125.out); replace BK131 := am (blk_drew BK131.out); replace BK137 := am (blk_drew BK137.out); replace HB := am (below_drew1 HB.out)
 refine start_ (n := 10) (S := fun w' => w'.cell? ⟨gb105, 0, none⟩ = some (.slice Ao36 t101.length co36) ∧ w'.cell? ⟨gb105, 1, none⟩ = some (.int .i64 t104) ∧ w'.cell? ⟨gb113, 0, none⟩ = some (.slice Ao42 t109.length co42) ∧ w'.cell? ⟨gb113, 1, none⟩ = some (.int .i64 t112)) (ds := []) q9_0 (by kernel_rfl) rfl rfl ⟨(blk_cell BK105.out 0).trans rfl, (blk_cell BK105.out 1).trans rfl, (blk_cell BK113.out 0).trans rfl, (blk_cell BK113.out 1).trans rfl⟩ (fun hHeld => ?_); refine with_tabW laws_FnFloatSums.tab9 laws_FnFloatSums.bits9 (fun HT_ HW_ => ?_)
 generalize w81.drew = w82 at HO103 HO108 HO111 HO116 HO122 HO128 HO134 BK105 BK113 BK119 BK125 BK131 BK137 HB hHeld ⊢
 refine take_ (i := 0) (N := some 52) (v := ?_) (a' := ?_) q9_1 rfl rfl (take_ofW HT_.out HW_.out (by kernel_rfl)) (fun _ _ _ h => h) (Or.inl ⟨by rfl, ?_⟩) hHeld ?_ ?_; rotate_left
 ·rintro w' ⟨s0, s1, s2, s3⟩
  go_simp; with_reducible rfl
 rotate_left
 ·simp only [Act.put, qa9, qb9, qc9, i64_w, i32_w]
  rfl
 refine take_ (i := 1) (N := some 53) (v := ?_) (a' := ?_) q9_2 rfl rfl (take_ofW HT_.out HW_.out (by kernel_rfl)) (fun _ _ _ h => h) (Or.inl ⟨by rfl, ?_⟩) hHeld ?_ ?_; rotate_left
 ·rintro w' ⟨s0, s1, s2, s3⟩
  go_simp; with_reducible rfl
 rotate_left
 ·simp only [Act.put, qa9, qb9, qc9, i64_w, i32_w]
  rfl
 refine join_ (σ := Value × Value × Nat) 2 q9_3 (fun s_ => [(54, .agg #[s_.1, .int .i64 t141]), (55, .tuple #[.agg #[s_.2.1, .int .i64 t145], .bool t146]), (13, .pointer (some ⟨s_.2.2, 0, none⟩)), (51, .tuple #[.agg #[s_.2.1, .int .i64 t145], .bool t146]), (56, .agg #[s_.2.1, .int .i64 t145]), (57, .bool t146)]) (fun s_ w' => (w'.cell? ⟨gb105, 0, none⟩ = some (.slice Ao36 t101.length co36) ∧ w'.cell? ⟨gb105, 1, none⟩ = some (.int .i64 t104) ∧ w'.cell? ⟨gb113, 0, none⟩ = some (.slice Ao42 t109.length co42) ∧ w'.cell? ⟨gb113, 1, none⟩ = some (.int .i64 t112)) ∧ (Kd.R (Kd.int .i64) 3 w' w.heap.size (fun k_ => NS k_ Ao42 t109 co42 ∧ NS k_ Ao47 t114 co47 ∧ NS k_ Ao55 t120 co55 ∧ NS k_ Ao64 t126 co64 ∧ NS k_ Ao74 t132 co74 ∧ NB k_ (s_.1) ∧ NB k_ (s_.2.1)) (.slice Ao36 t101.length co36) t101) ∧ (Kd.R (Kd.int .u8) 5 w' w.heap.size (fun _ => True) (.slice Ao39 t106.length co39) t106) ∧ (Kd.R (Kd.int .i64) 3 w' w.heap.size (fun k_ => NS k_ Ao36 t101 co36 ∧ NS k_ Ao47 t114 co47 ∧ NS k_ Ao55 t120 co55 ∧ NS k_ Ao64 t126 co64 ∧ NS k_ Ao74 t132 co74 ∧ NB k_ (s_.1) ∧ NB k_ (s_.2.1)) (.slice Ao42 t109.length co42) t109) ∧ (Kd.R (Kd.int .i64) 3 w' w.heap.size (fun k_ => NS k_ Ao36 t101 co36 ∧ NS k_ Ao42 t109 co42 ∧ NS k_ Ao55 t120 co55 ∧ NS k_ Ao64 t126 co64 ∧ NS k_ Ao74 t132 co74 ∧ NB k_ (s_.1) ∧ NB k_ (s_.2.1)) (.slice Ao47 t114.length co47) t114) ∧ (Kd.R (Kd.int .i64) 3 w' w.heap.size (fun k_ => NS k_ Ao36 t101 co36 ∧ NS k_ Ao42 t109 co42 ∧ NS k_ Ao47 t114 co47 ∧ NS k_ Ao64 t126 co64 ∧ NS k_ Ao74 t132 co74 ∧ NB k_ (s_.1) ∧ NB k_ (s_.2.1)) (.slice Ao55 t120.length co55) t120) ∧ (Kd.R (Kd.int .i64) 3 w' w.heap.size (fun k_ => NS k_ Ao36 t101 co36 ∧ NS k_ Ao42 t109 co42 ∧ NS k_ Ao47 t114 co47 ∧ NS k_ Ao55 t120 co55 ∧ NS k_ Ao74 t132 co74 ∧ NB k_ (s_.1) ∧ NB k_ (s_.2.1)) (.slice Ao64 t126.length co64) t126) ∧ (Kd.R (Kd.int .i64) 3 w' w.heap.size (fun k_ => NS k_ Ao36 t101 co36 ∧ NS k_ Ao42 t109 co42 ∧ NS k_ Ao47 t114 co47 ∧ NS k_ Ao55 t120 co55 ∧ NS k_ Ao64 t126 co64 ∧ NB k_ (s_.1) ∧ NB k_ (s_.2.1)) (.slice Ao74 t132.length co74) t132) ∧ (Kd.R (Kd.int .i64) 3 w' w.heap.size (fun k_ => NS k_ Ao36 t101 co36 ∧ NS k_ Ao42 t109 co42 ∧ NS k_ Ao47 t114 co47 ∧ NS k_ Ao55 t120 co55 ∧ NS k_ Ao64 t126 co64 ∧ NS k_ Ao74 t132 co74 ∧ NB k_ (s_.2.1)) s_.1 t138) ∧ (Kd.R (Kd.int .i64) 3 w' w.heap.size (fun k_ => NS k_ Ao36 t101 co36 ∧ NS k_ Ao42 t109 co42 ∧ NS k_ Ao47 t114 co47 ∧ NS k_ Ao55 t120 co55 ∧ NS k_ Ao64 t126 co64 ∧ NS k_ Ao74 t132 co74 ∧ NB k_ (s_.1)) s_.2.1 t142) ∧ (w'.heap[gb105]? = some (.cells #[.slice Ao36 t101.length co36, .int .i64 t104] 27 (0, 0))) ∧ (w'.heap[gb113]? = some (.cells #[.slice Ao42 t109.length co42, .int .i64 t112] 27 (0, 0))) ∧ (w'.heap[gb119]? = some (.cells #[.slice Ao47 t114.length co47, .int .i64 t117] 27 (0, 0))) ∧ (w'.heap[gb125]? = some (.cells #[.slice Ao55 t120.length co55, .int .i64 t123] 27 (0, 0))) ∧ (w'.heap[gb131]? = some (.cells #[.slice Ao64 t126.length co64, .int .i64 t129] 27 (0, 0))) ∧ (w'.heap[gb137]? = some (.cells #[.slice Ao74 t132.length co74, .int .i64 t135] 27 (0, 0))) ∧ (w'.heap[s_.2.2]? = some (.cells #[.slice none 0 0, .int .i64 0] 27 (0, 0))) ∧ (w.heap.size ≤ s_.2.2) ∧ (w.heap.size ≤ s_.2.2) ∧ (gb105 ≠ s_.2.2) ∧ (s_.2.2 ≠ gb105) ∧ (gb113 ≠ s_.2.2) ∧ (s_.2.2 ≠ gb113) ∧ (gb119 ≠ s_.2.2) ∧ (s_.2.2 ≠ gb119) ∧ (gb125 ≠ s_.2.2) ∧ (s_.2.2 ≠ gb125) ∧ (gb131 ≠ s_.2.2) ∧ (s_.2.2 ≠ gb131) ∧ (gb137 ≠ s_.2.2) ∧ (s_.2.2 ≠ gb137) ∧ (Below w.heap.size w w')) ?_ ?_; rotate_left
 ·intro hCont
  refine two_ (i := 2) (j := 7) (Ni := some 54) (Nj := some 13) q9_4 q9_5 rfl rfl rfl rfl (two_of HT_.out (by kernel_rfl)) (by decide) (by decide) (fun K hK => ?_) (fun K hK => ?_)
  ·skip
   refine goes_ Try.func31 (by kernel_rfl) rfl #[.agg #[.slice Ao42 t109.length co42, .int .i64 t112]] (by rfl) rfl rfl bE ?_
   with_reducible refine (impl_NegateFloat.calls k _ _ t109 t112 t138 t141 _ ?side1 ?side2 A10.out).mono ?_
   (case side1 => exact bD ((Kd.R_reads' HO111.out).2.2))
   (case side2 => exact (Kd.R_reads' HO111.out).2.1)
   rintro e w83 ⟨v139, rfl, ho0, hb⟩
   refine ⟨_, rfl, ?_⟩
   have HO140 := am (Kd.R_lower (Kd.R_new' (Kd.R_new' (Kd.R_new' (Kd.R_new' (Kd.R_new' (Kd.R_new' ho0 (Kd.R_lt (bC HO103.out))) (Kd.R_lt (bC HO111.out))) (Kd.R_lt (bC HO116.out))) (Kd.R_lt (bC HO122.out))) (Kd.R_lt (bC HO128.out))) (Kd.R_lt (bC HO134.out))) (below_size (bB HB.out))); replace HO103 := am (Kd.R_elder' (bC HO103.out) (Kd.R_base ho0) hb); replace HO108 := am (Kd.R_below (bC HO108.out) hb); replace HO111 := am (Kd.R_elder' (bC HO111.out) (Kd.R_base ho0) hb); replace HO116 := am (Kd.R_elder' (bC HO116.out) (Kd.R_base ho0) hb); replace HO122 := am (Kd.R_elder' (bC HO122.out) (Kd.R_base ho0) hb); replace HO128 := am (Kd.R_elder' (bC HO128.out) (Kd.R_base ho0) hb); replace HO134 := am (Kd.R_elder' (bC HO134.out) (Kd.R_base ho0) hb); replace BK105 := am (blk_below (bA BK105.out) hb); replace BK113 := am (blk_below (bA BK113.out) hb); replace BK119 := am (blk_below (bA BK119.out) hb); replace BK125 := am (blk_below (bA BK125.out) hb); replace BK131 := am (blk_below (bA BK131.out) hb); replace BK137 := am (blk_below (bA BK137.out) hb); replace HB := am (below_step (bB HB.out) hb); (try clear hb); (try clear hb2); (try clear hk); (try clear hi); (try clear ho0)
   obtain ⟨Ao84, co84, eo84⟩ := Kd.R_slice HO140.out
   (first | subst eo84 | (injection eo84 with f1_ f2_ f3_; have f4_ := f1_.symm; have f5_ := f3_.symm; clear f1_ f2_ f3_; subst f4_; subst f5_))
   refine hK.out _ _ ⟨(blk_cell BK105.out 0).trans rfl, (blk_cell BK105.out 1).trans rfl, (blk_cell BK113.out 0).trans rfl, (blk_cell BK113.out 1).trans rfl⟩ (fun hHeld => ?_)
   clear hK K
   refine norm_ (a' := ?_) ?_ ?_; rotate_left
   ·show Act.put _ (some 54) _ = _
    simp only [Act.put, qa9, qb9, qc9, i64_w, i32_w]
    rfl
   refine two_ (i := 3) (j := 7) (Ni := some 55) (Nj := some 13) q9_6 q9_7 rfl rfl rfl rfl (two_of HT_.out (by kernel_rfl)) (by decide) (by decide) (fun K hK => ?_) (fun K hK => ?_)
   ·skip
    refine goes_ Try.func22 (by kernel_rfl) rfl #[.agg #[.slice Ao36 t101.length co36, .int .i64 t104], .agg #[.slice Ao84 t138.length co84, .int .i64 t141]] (by rfl) rfl rfl bE ?_
    with_reducible refine (impl_AddFloats.calls k _ _ t101 t104 _ _ t138 t141 t142 t145 t146 _ ?side1 ?side2 ?side3 ?side4 A11.out).mono ?_
    (case side1 => exact bD ((Kd.R_reads' HO103.out).2.2))
    (case side2 => exact (Kd.R_reads' HO103.out).2.1)
    (case side3 => exact bD ((Kd.R_reads' HO140.out).2.2))
    (case side4 => exact (Kd.R_reads' HO140.out).2.1)
    rintro e w85 ⟨v143, rfl, ho0, hb⟩
    refine ⟨_, rfl, ?_⟩
    have HO144 := am (Kd.R_lower (Kd.R_new' (Kd.R_new' (Kd.R_new' (Kd.R_new' (Kd.R_new' (Kd.R_new' (Kd.R_new' ho0 (Kd.R_lt (bC HO103.out))) (Kd.R_lt (bC HO111.out))) (Kd.R_lt (bC HO116.out))) (Kd.R_lt (bC HO122.out))) (Kd.R_lt (bC HO128.out))) (Kd.R_lt (bC HO134.out))) (Kd.R_lt (bC HO140.out))) (below_size (bB HB.out))); replace HO103 := am (Kd.R_elder' (bC HO103.out) (Kd.R_base ho0) hb); replace HO108 := am (Kd.R_below (bC HO108.out) hb); replace HO111 := am (Kd.R_elder' (bC HO111.out) (Kd.R_base ho0) hb); replace HO116 := am (Kd.R_elder' (bC HO116.out) (Kd.R_base ho0) hb); replace HO122 := am (Kd.R_elder' (bC HO122.out) (Kd.R_base ho0) hb); replace HO128 := am (Kd.R_elder' (bC HO128.out) (Kd.R_base ho0) hb); replace HO134 := am (Kd.R_elder' (bC HO134.out) (Kd.R_base ho0) hb); replace HO140 := am (Kd.R_elder' (bC HO140.out) (Kd.R_base ho0) hb); replace BK105 := am (blk_below (bA BK105.out) hb); replace BK113 := am (blk_below (bA BK113.out) hb); replace BK119 := am (blk_below (bA BK119.out) hb); replace BK125 := am (blk_below (bA BK125.out) hb); replace BK131 := am (blk_below (bA BK131.out) hb); replace BK137 := am (blk_below (bA BK137.out) hb); replace HB := am (below_step (bB HB.out) hb); (try clear hb); (try clear hb2); (try clear hk); (try clear hi); (try clear ho0); clear A11
    refine hK.out _ _ ⟨(blk_cell BK105.out 0).trans rfl, (blk_cell BK105.out 1).trans rfl, (blk_cell BK113.out 0).trans rfl, (blk_cell BK113.out 1).trans rfl⟩ (fun hHeld => ?_)
    clear hK K
    refine norm_ (a' := ?_) ?_ ?_; rotate_left
    ·show Act.put _ (some 55) _ = _
     simp only [Act.put, qa9, qb9, qc9, i64_w, i32_w]
     rfl
    refine pure_ (i := 4) (N := some 51) (v := ?_) (a' := ?_) q9_8 rfl rfl (any_of HT_.out (by kernel_rfl)) (fun _ _ _ h => h) (Or.inl ⟨by rfl, ?_⟩) ?_ ?_; rotate_left
    ·intro w'
     go_simp; with_reducible rfl
    rotate_left
    ·simp only [Act.put, qa9, qb9, qc9, i64_w, i32_w]
     rfl
    refine pure_ (i := 5) (N := some 56) (v := ?_) (a' := ?_) q9_9 rfl rfl (any_of HT_.out (by kernel_rfl)) (fun _ _ _ h => h) (Or.inl ⟨by rfl, ?_⟩) ?_ ?_; rotate_left
    ·intro w'
     go_simp; with_reducible rfl
    rotate_left
    ·simp only [Act.put, qa9, qb9, qc9, i64_w, i32_w]
     rfl
    refine pure_ (i := 6) (N := some 57) (v := ?_) (a' := ?_) q9_10 rfl rfl (any_of HT_.out (by kernel_rfl)) (fun _ _ _ h => h) (Or.inl ⟨by rfl, ?_⟩) ?_ ?_; rotate_left
    ·intro w'
     go_simp; with_reducible rfl
    rotate_left
    ·simp only [Act.put, qa9, qb9, qc9, i64_w, i32_w]
     rfl
    refine one_ (i := 7) (N := some 13) q9_3 rfl rfl (one_of HT_.out (by kernel_rfl)) (by decide) (fun K hK => ?_)
    refine box_step ?hg (N := 13) ?hd (cs := #[.slice none 0 0, .int .i64 0]) (t := 27) ?hr ?_; (case hd => rfl); (case hg => rfl); (case hr => first | (go_simp; done) | (go_simp; rfl))
    intro gb147 hg w86 hbox hb
    have n0_ := am (Kd.R_below (bC HO103.out) hb); have n1_ := am (Kd.R_below (bC HO108.out) hb); have n2_ := am (Kd.R_below (bC HO111.out) hb); have n3_ := am (Kd.R_below (bC HO116.out) hb); have n4_ := am (Kd.R_below (bC HO122.out) hb); have n5_ := am (Kd.R_below (bC HO128.out) hb); have n6_ := am (Kd.R_below (bC HO134.out) hb); have n7_ := am (Kd.R_below (bC HO140.out) hb); have n8_ := am (Kd.R_below (bC HO144.out) hb); have n9_ := am (blk_below (bA BK105.out) hb); have n10_ := am (blk_below (bA BK113.out) hb); have n11_ := am (blk_below (bA BK119.out) hb); have n12_ := am (blk_below (bA BK125.out) hb); have n13_ := am (blk_below (bA BK131.out) hb); have n14_ := am (blk_below (bA BK137.out) hb); have n15_ := am (below_step (bB HB.out) hb); have n16_ := am (hbox); have n17_ := am ((by rw [hg]; exact (below_size (bB HB.out)) : w.heap.size ≤ gb147)); have n18_ := am ((by rw [hg]; exact (below_size (bB HB.out)) : w.heap.size ≤ gb147)); have n19_ := am ((by rw [hg]; exact Nat.ne_of_lt (blk_lt (g := gb105) (o := .cells #[.slice Ao36 t101.length co36, .int .i64 t104] 27 (0, 0)) (bA BK105.out)) : gb105 ≠ gb147)); have n20_ := am ((by rw [hg]; exact Nat.ne_of_gt (blk_lt (g := gb105) (o := .cells #[.slice Ao36 t101.length co36, .int .i64 t104] 27 (0, 0)) (bA BK105.out)) : gb147 ≠ gb105)); have n21_ := am ((by rw [hg]; exact Nat.ne_of_lt (blk_lt (g := gb113) (o := .cells #[.slice Ao42 t109.length co42, .int .i64 t112] 27 (0, 0)) (bA BK113.out)) : gb113 ≠ gb147)); have n22_ := am ((by rw [hg]; exact Nat.ne_of_gt (blk_lt (g := gb113) (o := .cells #[.slice Ao42 t109.length co42, .int .i64 t112] 27 (0, 0)) (bA BK113.out)) : gb147 ≠ gb113)); have n23_ := am ((by rw [hg]; exact Nat.ne_of_lt (blk_lt (g := gb119) (o := .cells #[.slice Ao47 t114.length co47, .int .i64 t117] 27 (0, 0)) (bA BK119.out)) : gb119 ≠ gb147)); have n24_ := am ((by rw [hg]; exact Nat.ne_of_gt (blk_lt (g := gb119) (o := .cells #[.slice Ao47 t114.length co47, .int .i64 t117] 27 (0, 0)) (bA BK119.out)) : gb147 ≠ gb119)); have n25_ := am ((by rw [hg]; exact Nat.ne_of_lt (blk_lt (g := gb125) (o := .cells #[.slice Ao55 t120.length co55, .int .i64 t123] 27 (0, 0)) (bA BK125.out)) : gb125 ≠ gb147)); have n26_ := am ((by rw [hg]; exact Nat.ne_of_gt (blk_lt (g := gb125) (o := .cells #[.slice Ao55 t120.length co55, .int .i64 t123] 27 (0, 0)) (bA BK125.out)) : gb147 ≠ gb125)); have n27_ := am ((by rw [hg]; exact Nat.ne_of_lt (blk_lt (g := gb131) (o := .cells #[.slice Ao64 t126.length co64, .int .i64 t129] 27 (0, 0)) (bA BK131.out)) : gb131 ≠ gb147)); have n28_ := am ((by rw [hg]; exact Nat.ne_of_gt (blk_lt (g := gb131) (o := .cells #[.slice Ao64 t126.length co64, .int .i64 t129] 27 (0, 0)) (bA BK131.out)) : gb147 ≠ gb131)); have n29_ := am ((by rw [hg]; exact Nat.ne_of_lt (blk_lt (g := gb137) (o := .cells #[.slice Ao74 t132.length co74, .int .i64 t135] 27 (0, 0)) (bA BK137.out)) : gb137 ≠ gb147)); have n30_ := am ((by rw [hg]; exact Nat.ne_of_gt (blk_lt (g := gb137) (o := .cells #[.slice Ao74 t132.length co74, .int .i64 t135] 27 (0, 0)) (bA BK137.out)) : gb147 ≠ gb137))
    clear HO103 HO108; clear HO111 HO116; clear HO122 HO128; clear HO134 HO140; clear HO144 BK105; clear BK113 BK119; clear BK125 BK131; clear BK137 HB; have HO103 := n0_; have HO108 := n1_; have HO111 := n2_; have HO116 := n3_; have HO122 := n4_; have HO128 := n5_; have HO134 := n6_; have HO140 := n7_; have HO144 := n8_; have BK105 := n9_; have BK113 := n10_; have BK119 := n11_; have BK125 := n12_; have BK131 := n13_; have BK137 := n14_; have HB := n15_; have BK147 := n16_; have GW147 := n17_; have GE147 := n18_; have NB105_147 := n19_; have NB147_105 := n20_; have NB113_147 := n21_; have NB147_113 := n22_; have NB119_147 := n23_; have NB147_119 := n24_; have NB125_147 := n25_; have NB147_125 := n26_; have NB131_147 := n27_; have NB147_131 := n28_; have NB137_147 := n29_; have NB147_137 := n30_; clear n0_ n1_ n2_ n3_ n4_ n5_ n6_ n7_ n8_ n9_ n10_ n11_ n12_ n13_ n14_ n15_ n16_ n17_ n18_ n19_ n20_ n21_ n22_ n23_ n24_ n25_ n26_ n27_ n28_ n29_ n30_; clear hb hbox hg
    refine hK.out _ _ ⟨(blk_cell BK105.out 0).trans rfl, (blk_cell BK105.out 1).trans rfl, (blk_cell BK113.out 0).trans rfl, (blk_cell BK113.out 1).trans rfl⟩ (fun hHeld => ?_)
    clear hK K
    refine norm_ (a' := ?_) ?_ ?_; rotate_left
    ·show Act.put _ (some 13) _ = _
     simp only [Act.put, qa9, qb9, qc9, i64_w, i32_w]
     rfl
    exact norm_ (by simp only [putAll, Act.put, qa9, qb9, qc9]) (hCont (.slice Ao84 t138.length co84, v143, gb147) _ ⟨hHeld, (bC (rM HO103.out)), (bC HO108.out), (bC (rM HO111.out)), (bC (rM HO116.out)), (bC (rM HO122.out)), (bC (rM HO128.out)), (bC (rM HO134.out)), (bC (rM HO140.out)), (bC (rM HO144.out)), (bA BK105.out), (bA BK113.out), (bA BK119.out), (bA BK125.out), (bA BK131.out), (bA BK137.out), (bA BK147.out), GW147.out, GE147.out, NB105_147.out, NB147_105.out, NB113_147.out, NB147_113.out, NB119_147.out, NB147_119.out, NB125_147.out, NB147_125.out, NB131_147.out, NB147_131.out, NB137_147.out, NB147_137.out, (bB HB.out)⟩)
   ·skip
    refine box_step ?hg (N := 13) ?hd (cs := #[.slice none 0 0, .int .i64 0]) (t := 27) ?hr ?_; (case hd => rfl); (case hg => rfl); (case hr => first | (go_simp; done) | (go_simp; rfl))
    intro gb147 hg w84 hbox hb
    have n0_ := am (Kd.R_below (bC HO103.out) hb); have n1_ := am (Kd.R_below (bC HO108.out) hb); have n2_ := am (Kd.R_below (bC HO111.out) hb); have n3_ := am (Kd.R_below (bC HO116.out) hb); have n4_ := am (Kd.R_below (bC HO122.out) hb); have n5_ := am (Kd.R_below (bC HO128.out) hb); have n6_ := am (Kd.R_below (bC HO134.out) hb); have n7_ := am (Kd.R_below (bC HO140.out) hb); have n8_ := am (blk_below (bA BK105.out) hb); have n9_ := am (blk_below (bA BK113.out) hb); have n10_ := am (blk_below (bA BK119.out) hb); have n11_ := am (blk_below (bA BK125.out) hb); have n12_ := am (blk_below (bA BK131.out) hb); have n13_ := am (blk_below (bA BK137.out) hb); have n14_ := am (below_step (bB HB.out) hb); have n15_ := am (hbox); have n16_ := am ((by rw [hg]; exact (below_size (bB HB.out)) : w.heap.size ≤ gb147)); have n17_ := am ((by rw [hg]; exact (below_size (bB HB.out)) : w.heap.size ≤ gb147)); have n18_ := am ((by rw [hg]; exact Nat.ne_of_lt (blk_lt (g := gb105) (o := .cells #[.slice Ao36 t101.length co36, .int .i64 t104] 27 (0, 0)) (bA BK105.out)) : gb105 ≠ gb147)); have n19_ := am ((by rw [hg]; exact Nat.ne_of_gt (blk_lt (g := gb105) (o := .cells #[.slice Ao36 t101.length co36, .int .i64 t104] 27 (0, 0)) (bA BK105.out)) : gb147 ≠ gb105)); have n20_ := am ((by rw [hg]; exact Nat.ne_of_lt (blk_lt (g := gb113) (o := .cells #[.slice Ao42 t109.length co42, .int .i64 t112] 27 (0, 0)) (bA BK113.out)) : gb113 ≠ gb147)); have n21_ := am ((by rw [hg]; exact Nat.ne_of_gt (blk_lt (g := gb113) (o := .cells #[.slice Ao42 t109.length co42, .int .i64 t112] 27 (0, 0)) (bA BK113.out)) : gb147 ≠ gb113)); have n22_ := am ((by rw [hg]; exact Nat.ne_of_lt (blk_lt (g := gb119) (o := .cells #[.slice Ao47 t114.length co47, .int .i64 t117] 27 (0, 0)) (bA BK119.out)) : gb119 ≠ gb147)); have n23_ := am ((by rw [hg]; exact Nat.ne_of_gt (blk_lt (g := gb119) (o := .cells #[.slice Ao47 t114.length co47, .int .i64 t117] 27 (0, 0)) (bA BK119.out)) : gb147 ≠ gb119)); have n24_ := am ((by rw [hg]; exact Nat.ne_of_lt (blk_lt (g := gb125) (o := .cells #[.slice Ao55 t120.length co55, .int .i64 t123] 27 (0, 0)) (bA BK125.out)) : gb125 ≠ gb147)); have n25_ := am ((by rw [hg]; exact Nat.ne_of_gt (blk_lt (g := gb125) (o := .cells #[.slice Ao55 t120.length co55, .int .i64 t123] 27 (0, 0)) (bA BK125.out)) : gb147 ≠ gb125)); have n26_ := am ((by rw [hg]; exact Nat.ne_of_lt (blk_lt (g := gb131) (o := .cells #[.slice Ao64 t126.length co64, .int .i64 t129] 27 (0, 0)) (bA BK131.out)) : gb131 ≠ gb147)); have n27_ := am ((by rw [hg]; exact Nat.ne_of_gt (blk_lt (g := gb131) (o := .cells #[.slice Ao64 t126.length co64, .int .i64 t129] 27 (0, 0)) (bA BK131.out)) : gb147 ≠ gb131)); have n28_ := am ((by rw [hg]; exact Nat.ne_of_lt (blk_lt (g := gb137) (o := .cells #[.slice Ao74 t132.length co74, .int .i64 t135] 27 (0, 0)) (bA BK137.out)) : gb137 ≠ gb147)); have n29_ := am ((by rw [hg]; exact Nat.ne_of_gt (blk_lt (g := gb137) (o := .cells #[.slice Ao74 t132.length co74, .int .i64 t135] 27 (0, 0)) (bA BK137.out)) : gb147 ≠ gb137))
    clear HO103 HO108; clear HO111 HO116; clear HO122 HO128; clear HO134 HO140; clear BK105 BK113; clear BK119 BK125; clear BK131 BK137 HB; have HO103 := n0_; have HO108 := n1_; have HO111 := n2_; have HO116 := n3_; have HO122 := n4_; have HO128 := n5_; have HO134 := n6_; have HO140 := n7_; have BK105 := n8_; have BK113 := n9_; have BK119 := n10_; have BK125 := n11_; have BK131 := n12_; have BK137 := n13_; have HB := n14_; have BK147 := n15_; have GW147 := n16_; have GE147 := n17_; have NB105_147 := n18_; have NB147_105 := n19_; have NB113_147 := n20_; have NB147_113 := n21_; have NB119_147 := n22_; have NB147_119 := n23_; have NB125_147 := n24_; have NB147_125 := n25_; have NB131_147 := n26_; have NB147_131 := n27_; have NB137_147 := n28_; have NB147_137 := n29_; clear n0_ n1_ n2_ n3_ n4_ n5_ n6_ n7_ n8_ n9_ n10_ n11_ n12_ n13_ n14_ n15_ n16_ n17_ n18_ n19_ n20_ n21_ n22_ n23_ n24_ n25_ n26_ n27_ n28_ n29_; clear hb hbox hg
    obtain ⟨Ao85, co85, eo85⟩ := Kd.R_slice HO140.out
    (first | subst eo85 | (injection eo85 with f1_ f2_ f3_; have f4_ := f1_.symm; have f5_ := f3_.symm; clear f1_ f2_ f3_; subst f4_; subst f5_))
    refine hK.out _ _ ⟨(blk_cell BK105.out 0).trans rfl, (blk_cell BK105.out 1).trans rfl, (blk_cell BK113.out 0).trans rfl, (blk_cell BK113.out 1).trans rfl⟩ (fun hHeld => ?_)
    clear hK K
    refine norm_ (a' := ?_) ?_ ?_; rotate_left
    ·show Act.put _ (some 13) _ = _
     simp only [Act.put, qa9, qb9, qc9, i64_w, i32_w]
     rfl
    refine one_ (i := 3) (N := some 55) q9_11 rfl rfl (one_of HT_.out (by kernel_rfl)) (by decide) (fun K hK => ?_)
    refine goes_ Try.func22 (by kernel_rfl) rfl #[.agg #[.slice Ao36 t101.length co36, .int .i64 t104], .agg #[.slice Ao85 t138.length co85, .int .i64 t141]] (by rfl) rfl rfl bE ?_
    with_reducible refine (impl_AddFloats.calls k _ _ t101 t104 _ _ t138 t141 t142 t145 t146 _ ?side1 ?side2 ?side3 ?side4 A11.out).mono ?_
    (case side1 => exact bD ((Kd.R_reads' HO103.out).2.2))
    (case side2 => exact (Kd.R_reads' HO103.out).2.1)
    (case side3 => exact bD ((Kd.R_reads' HO140.out).2.2))
    (case side4 => exact (Kd.R_reads' HO140.out).2.1)
    rintro e w86 ⟨v143, rfl, ho0, hb⟩
    refine ⟨_, rfl, ?_⟩
    have HO144 := am (Kd.R_lower (Kd.R_new' (Kd.R_new' (Kd.R_new' (Kd.R_new' (Kd.R_new' (Kd.R_new' (Kd.R_new' ho0 (Kd.R_lt (bC HO103.out))) (Kd.R_lt (bC HO111.out))) (Kd.R_lt (bC HO116.out))) (Kd.R_lt (bC HO122.out))) (Kd.R_lt (bC HO128.out))) (Kd.R_lt (bC HO134.out))) (Kd.R_lt (bC HO140.out))) (below_size (bB HB.out))); replace HO103 := am (Kd.R_elder' (bC HO103.out) (Kd.R_base ho0) hb); replace HO108 := am (Kd.R_below (bC HO108.out) hb); replace HO111 := am (Kd.R_elder' (bC HO111.out) (Kd.R_base ho0) hb); replace HO116 := am (Kd.R_elder' (bC HO116.out) (Kd.R_base ho0) hb); replace HO122 := am (Kd.R_elder' (bC HO122.out) (Kd.R_base ho0) hb); replace HO128 := am (Kd.R_elder' (bC HO128.out) (Kd.R_base ho0) hb); replace HO134 := am (Kd.R_elder' (bC HO134.out) (Kd.R_base ho0) hb); replace HO140 := am (Kd.R_elder' (bC HO140.out) (Kd.R_base ho0) hb); replace BK105 := am (blk_below (bA BK105.out) hb); replace BK113 := am (blk_below (bA BK113.out) hb); replace BK119 := am (blk_below (bA BK119.out) hb); replace BK125 := am (blk_below (bA BK125.out) hb); replace BK131 := am (blk_below (bA BK131.out) hb); replace BK137 := am (blk_below (bA BK137.out) hb); replace BK147 := am (blk_below (bA BK147.out) hb); replace HB := am (below_step (bB HB.out) hb); (try clear hb); (try clear hb2); (try clear hk); (try clear hi); (try clear ho0); clear A11
    refine hK.out _ _ ⟨(blk_cell BK105.out 0).trans rfl, (blk_cell BK105.out 1).trans rfl, (blk_cell BK113.out 0).trans rfl, (blk_cell BK113.out 1).trans rfl⟩ (fun hHeld => ?_)
    clear hK K
    refine norm_ (a' := ?_) ?_ ?_; rotate_left
    ·show Act.put _ (some 55) _ = _
     simp only [Act.put, qa9, qb9, qc9, i64_w, i32_w]
     rfl
    refine pure_ (i := 4) (N := some 51) (v := ?_) (a' := ?_) q9_12 rfl rfl (any_of HT_.out (by kernel_rfl)) (fun _ _ _ h => h) (Or.inl ⟨by rfl, ?_⟩) ?_ ?_; rotate_left
    ·intro w'
     go_simp; with_reducible rfl
    rotate_left
    ·simp only [Act.put, qa9, qb9, qc9, i64_w, i32_w]
     rfl
    refine pure_ (i := 5) (N := some 56) (v := ?_) (a' := ?_) q9_13 rfl rfl (any_of HT_.out (by kernel_rfl)) (fun _ _ _ h => h) (Or.inl ⟨by rfl, ?_⟩) ?_ ?_; rotate_left
    ·intro w'
     go_simp; with_reducible rfl
    rotate_left
    ·simp only [Act.put, qa9, qb9, qc9, i64_w, i32_w]
     rfl
    refine pure_ (i := 6) (N := some 57) (v := ?_) (a' := ?_) q9_3 rfl rfl (any_of HT_.out (by kernel_rfl)) (fun _ _ _ h => h) (Or.inl ⟨by rfl, ?_⟩) ?_ ?_; rotate_left
    ·intro w'
     go_simp; with_reducible rfl
    rotate_left
    ·simp only [Act.put, qa9, qb9, qc9, i64_w, i32_w]
     rfl
    exact norm_ (by simp only [putAll, Act.put, qa9, qb9, qc9]) (hCont (.slice Ao85 t138.length co85, v143, gb147) _ ⟨hHeld, (bC (rM HO103.out)), (bC HO108.out), (bC (rM HO111.out)), (bC (rM HO116.out)), (bC (rM HO122.out)), (bC (rM HO128.out)), (bC (rM HO134.out)), (bC (rM HO140.out)), (bC (rM HO144.out)), (bA BK105.out), (bA BK113.out), (bA BK119.out), (bA BK125.out), (bA BK131.out), (bA BK137.out), (bA BK147.out), GW147.out, GE147.out, NB105_147.out, NB147_105.out, NB113_147.out, NB147_113.out, NB119_147.out, NB147_119.out, NB125_147.out, NB147_125.out, NB131_147.out, NB147_131.out, NB137_147.out, NB147_137.out, (bB HB.out)⟩)
  ·skip
   refine box_step ?hg (N := 13) ?hd (cs := #[.slice none 0 0, .int .i64 0]) (t := 27) ?hr ?_; (case hd => rfl); (case hg => rfl); (case hr => first | (go_simp; done) | (go_simp; rfl))
   intro gb147 hg w83 hbox hb
   have n0_ := am (Kd.R_below (bC HO103.out) hb); have n1_ := am (Kd.R_below (bC HO108.out) hb); have n2_ := am (Kd.R_below (bC HO111.out) hb); have n3_ := am (Kd.R_below (bC HO116.out) hb); have n4_ := am (Kd.R_below (bC HO122.out) hb); have n5_ := am (Kd.R_below (bC HO128.out) hb); have n6_ := am (Kd.R_below (bC HO134.out) hb); have n7_ := am (blk_below (bA BK105.out) hb); have n8_ := am (blk_below (bA BK113.out) hb); have n9_ := am (blk_below (bA BK119.out) hb); have n10_ := am (blk_below (bA BK125.out) hb); have n11_ := am (blk_below (bA BK131.out) hb); have n12_ := am (blk_below (bA BK137.out) hb); have n13_ := am (below_step (bB HB.out) hb); have n14_ := am (hbox); have n15_ := am ((by rw [hg]; exact (below_size (bB HB.out)) : w.heap.size ≤ gb147)); have n16_ := am ((by rw [hg]; exact (below_size (bB HB.out)) : w.heap.size ≤ gb147)); have n17_ := am ((by rw [hg]; exact Nat.ne_of_lt (blk_lt (g := gb105) (o := .cells #[.slice Ao36 t101.length co36, .int .i64 t104] 27 (0, 0)) (bA BK105.out)) : gb105 ≠ gb147)); have n18_ := am ((by rw [hg]; exact Nat.ne_of_gt (blk_lt (g := gb105) (o := .cells #[.slice Ao36 t101.length co36, .int .i64 t104] 27 (0, 0)) (bA BK105.out)) : gb147 ≠ gb105)); have n19_ := am ((by rw [hg]; exact Nat.ne_of_lt (blk_lt (g := gb113) (o := .cells #[.slice Ao42 t109.length co42, .int .i64 t112] 27 (0, 0)) (bA BK113.out)) : gb113 ≠ gb147)); have n20_ := am ((by rw [hg]; exact Nat.ne_of_gt (blk_lt (g := gb113) (o := .cells #[.slice Ao42 t109.length co42, .int .i64 t112] 27 (0, 0)) (bA BK113.out)) : gb147 ≠ gb113)); have n21_ := am ((by rw [hg]; exact Nat.ne_of_lt (blk_lt (g := gb119) (o := .cells #[.slice Ao47 t114.length co47, .int .i64 t117] 27 (0, 0)) (bA BK119.out)) : gb119 ≠ gb147)); have n22_ := am ((by rw [hg]; exact Nat.ne_of_gt (blk_lt (g := gb119) (o := .cells #[.slice Ao47 t114.length co47, .int .i64 t117] 27 (0, 0)) (bA BK119.out)) : gb147 ≠ gb119)); have n23_ := am ((by rw [hg]; exact Nat.ne_of_lt (blk_lt (g := gb125) (o := .cells #[.slice Ao55 t120.length co55, .int .i64 t123] 27 (0, 0)) (bA BK125.out)) : gb125 ≠ gb147)); have n24_ := am ((by rw [hg]; exact Nat.ne_of_gt (blk_lt (g := gb125) (o := .cells #[.slice Ao55 t120.length co55, .int .i64 t123] 27 (0, 0)) (bA BK125.out)) : gb147 ≠ gb125)); have n25_ := am ((by rw [hg]; exact Nat.ne_of_lt (blk_lt (g := gb131) (o := .cells #[.slice Ao64 t126.length co64, .int .i64 t129] 27 (0, 0)) (bA BK131.out)) : gb131 ≠ gb147)); have n26_ := am ((by rw [hg]; exact Nat.ne_of_gt (blk_lt (g := gb131) (o := .cells #[.slice Ao64 t126.length co64, .int .i64 t129] 27 (0, 0)) (bA BK131.out)) : gb147 ≠ gb131)); have n27_ := am ((by rw [hg]; exact Nat.ne_of_lt (blk_lt (g := gb137) (o := .cells #[.slice Ao74 t132.length co74, .int .i64 t135] 27 (0, 0)) (bA BK137.out)) : gb137 ≠ gb147)); have n28_ := am ((by rw [hg]; exact Nat.ne_of_gt (blk_lt (g := gb137) (o := .cells #[.slice Ao74 t132.length co74, .int .i64 t135] 27 (0, 0)) (bA BK137.out)) : gb147 ≠ gb137)); clear HO103 HO108
   clear HO111 HO116; clear HO122 HO128; clear HO134 BK105; clear BK113 BK119; clear BK125 BK131; clear BK137 HB; have HO103 := n0_; have HO108 := n1_; have HO111 := n2_; have HO116 := n3_; have HO122 := n4_; have HO128 := n5_; have HO134 := n6_; have BK105 := n7_; have BK113 := n8_; have BK119 := n9_; have BK125 := n10_; have BK131 := n11_; have BK137 := n12_; have HB := n13_; have BK147 := n14_; have GW147 := n15_; have GE147 := n16_; have NB105_147 := n17_; have NB147_105 := n18_; have NB113_147 := n19_; have NB147_113 := n20_; have NB119_147 := n21_; have NB147_119 := n22_; have NB125_147 := n23_; have NB147_125 := n24_; have NB131_147 := n25_; have NB147_131 := n26_; have NB137_147 := n27_; have NB147_137 := n28_; clear n0_ n1_ n2_ n3_ n4_ n5_ n6_ n7_ n8_ n9_ n10_ n11_ n12_ n13_ n14_ n15_ n16_ n17_ n18_ n19_ n20_ n21_ n22_ n23_ n24_ n25_ n26_ n27_ n28_; clear hb hbox hg
   refine hK.out _ _ ⟨(blk_cell BK105.out 0).trans rfl, (blk_cell BK105.out 1).trans rfl, (blk_cell BK113.out 0).trans rfl, (blk_cell BK113.out 1).trans rfl⟩ (fun hHeld => ?_)
   clear hK K
   refine norm_ (a' := ?_) ?_ ?_; rotate_left
   ·show Act.put _ (some 13) _ = _
    simp only [Act.put, qa9, qb9, qc9, i64_w, i32_w]
    rfl
   refine one_ (i := 2) (N := some 54) q9_7 rfl rfl (one_of HT_.out (by kernel_rfl)) (by decide) (fun K hK => ?_)
   refine goes_ Try.func31 (by kernel_rfl) rfl #[.agg #[.slice Ao42 t109.length co42, .int .i64 t112]] (by rfl) rfl rfl bE ?_
   with_reducible refine (impl_NegateFloat.calls k _ _ t109 t112 t138 t141 _ ?side1 ?side2 A10.out).mono ?_
   (case side1 => exact bD ((Kd.R_reads' HO111.out).2.2))
   (case side2 => exact (Kd.R_reads' HO111.out).2.1)
   rintro e w84 ⟨v139, rfl, ho0, hb⟩
   refine ⟨_, rfl, ?_⟩
   have HO140 := am (Kd.R_lower (Kd.R_new' (Kd.R_new' (Kd.R_new' (Kd.R_new' (Kd.R_new' (Kd.R_new' ho0 (Kd.R_lt (bC HO103.out))) (Kd.R_lt (bC HO111.out))) (Kd.R_lt (bC HO116.out))) (Kd.R_lt (bC HO122.out))) (Kd.R_lt (bC HO128.out))) (Kd.R_lt (bC HO134.out))) (below_size (bB HB.out))); replace HO103 := am (Kd.R_elder' (bC HO103.out) (Kd.R_base ho0) hb); replace HO108 := am (Kd.R_below (bC HO108.out) hb); replace HO111 := am (Kd.R_elder' (bC HO111.out) (Kd.R_base ho0) hb); replace HO116 := am (Kd.R_elder' (bC HO116.out) (Kd.R_base ho0) hb); replace HO122 := am (Kd.R_elder' (bC HO122.out) (Kd.R_base ho0) hb); replace HO128 := am (Kd.R_elder' (bC HO128.out) (Kd.R_base ho0) hb); replace HO134 := am (Kd.R_elder' (bC HO134.out) (Kd.R_base ho0) hb); replace BK105 := am (blk_below (bA BK105.out) hb); replace BK113 := am (blk_below (bA BK113.out) hb); replace BK119 := am (blk_below (bA BK119.out) hb); replace BK125 := am (blk_below (bA BK125.out) hb); replace BK131 := am (blk_below (bA BK131.out) hb); replace BK137 := am (blk_below (bA BK137.out) hb); replace BK147 := am (blk_below (bA BK147.out) hb); replace HB := am (below_step (bB HB.out) hb); (try clear hb); (try clear hb2); (try clear hk); (try clear hi); (try clear ho0)
   obtain ⟨Ao85, co85, eo85⟩ := Kd.R_slice HO140.out
   (first | subst eo85 | (injection eo85 with f1_ f2_ f3_; have f4_ := f1_.symm; have f5_ := f3_.symm; clear f1_ f2_ f3_; subst f4_; subst f5_))
   refine hK.out _ _ ⟨(blk_cell BK105.out 0).trans rfl, (blk_cell BK105.out 1).trans rfl, (blk_cell BK113.out 0).trans rfl, (blk_cell BK113.out 1).trans rfl⟩ (fun hHeld => ?_)
   clear hK K
   refine norm_ (a' := ?_) ?_ ?_; rotate_left
   ·show Act.put _ (some 54) _ = _
    simp only [Act.put, qa9, qb9, qc9, i64_w, i32_w]
    rfl
   refine one_ (i := 3) (N := some 55) q9_11 rfl rfl (one_of HT_.out (by kernel_rfl)) (by decide) (fun K hK => ?_)
   refine goes_ Try.func22 (by kernel_rfl) rfl #[.agg #[.slice Ao36 t101.length co36, .int .i64 t104], .agg #[.slice Ao85 t138.length co85, .int .i64 t141]] (by rfl) rfl rfl bE ?_
   with_reducible refine (impl_AddFloats.calls k _ _ t101 t104 _ _ t138 t141 t142 t145 t146 _ ?side1 ?side2 ?side3 ?side4 A11.out).mono ?_
   (case side1 => exact bD ((Kd.R_reads' HO103.out).2.2))
   (case side2 => exact (Kd.R_reads' HO103.out).2.1)
   (case side3 => exact bD ((Kd.R_reads' HO140.out).2.2))
   (case side4 => exact (Kd.R_reads' HO140.out).2.1)
   rintro e w86 ⟨v143, rfl, ho0, hb⟩
   refine ⟨_, rfl, ?_⟩
   have HO144 := am (Kd.R_lower (Kd.R_new' (Kd.R_new' (Kd.R_new' (Kd.R_new' (Kd.R_new' (Kd.R_new' (Kd.R_new' ho0 (Kd.R_lt (bC HO103.out))) (Kd.R_lt (bC HO111.out))) (Kd.R_lt (bC HO116.out))) (Kd.R_lt (bC HO122.out))) (Kd.R_lt (bC HO128.out))) (Kd.R_lt (bC HO134.out))) (Kd.R_lt (bC HO140.out))) (below_size (bB HB.out))); replace HO103 := am (Kd.R_elder' (bC HO103.out) (Kd.R_base ho0) hb); replace HO108 := am (Kd.R_below (bC HO108.out) hb); replace HO111 := am (Kd.R_elder' (bC HO111.out) (Kd.R_base ho0) hb); replace HO116 := am (Kd.R_elder' (bC HO116.out) (Kd.R_base ho0) hb); replace HO122 := am (Kd.R_elder' (bC HO122.out) (Kd.R_base ho0) hb); replace HO128 := am (Kd.R_elder' (bC HO128.out) (Kd.R_base ho0) hb); replace HO134 := am (Kd.R_elder' (bC HO134.out) (Kd.R_base ho0) hb); replace HO140 := am (Kd.R_elder' (bC HO140.out) (Kd.R_base ho0) hb); replace BK105 := am (blk_below (bA BK105.out) hb); replace BK113 := am (blk_below (bA BK113.out) hb); replace BK119 := am (blk_below (bA BK119.out) hb); replace BK125 := am (blk_below (bA BK125.out) hb); replace BK131 := am (blk_below (bA BK131.out) hb); replace BK137 := am (blk_below (bA BK137.out) hb); replace BK147 := am (blk_below (bA BK147.out) hb); replace HB := am (below_step (bB HB.out) hb); (try clear hb); (try clear hb2); (try clear hk); (try clear hi); (try clear ho0); clear A11
   refine hK.out _ _ ⟨(blk_cell BK105.out 0).trans rfl, (blk_cell BK105.out 1).trans rfl, (blk_cell BK113.out 0).trans rfl, (blk_cell BK113.out 1).trans rfl⟩ (fun hHeld => ?_)
   clear hK K
   refine norm_ (a' := ?_) ?_ ?_; rotate_left
   ·show Act.put _ (some 55) _ = _
    simp only [Act.put, qa9, qb9, qc9, i64_w, i32_w]
    rfl
   refine pure_ (i := 4) (N := some 51) (v := ?_) (a' := ?_) q9_12 rfl rfl (any_of HT_.out (by kernel_rfl)) (fun _ _ _ h => h) (Or.inl ⟨by rfl, ?_⟩) ?_ ?_; rotate_left
   ·intro w'
    go_simp; with_reducible rfl
   rotate_left
   ·simp only [Act.put, qa9, qb9, qc9, i64_w, i32_w]
    rfl
   refine pure_ (i := 5) (N := some 56) (v := ?_) (a' := ?_) q9_13 rfl rfl (any_of HT_.out (by kernel_rfl)) (fun _ _ _ h => h) (Or.inl ⟨by rfl, ?_⟩) ?_ ?_; rotate_left
   ·intro w'
    go_simp; with_reducible rfl
   rotate_left
   ·simp only [Act.put, qa9, qb9, qc9, i64_w, i32_w]
    rfl
   refine pure_ (i := 6) (N := some 57) (v := ?_) (a' := ?_) q9_3 rfl rfl (any_of HT_.out (by kernel_rfl)) (fun _ _ _ h => h) (Or.inl ⟨by rfl, ?_⟩) ?_ ?_; rotate_left
   ·intro w'
    go_simp; with_reducible rfl
   rotate_left
   ·simp only [Act.put, qa9, qb9, qc9, i64_w, i32_w]
    rfl
   exact norm_ (by simp only [putAll, Act.put, qa9, qb9, qc9]) (hCont (.slice Ao85 t138.length co85, v143, gb147) _ ⟨hHeld, (bC (rM HO103.out)), (bC HO108.out), (bC (rM HO111.out)), (bC (rM HO116.out)), (bC (rM HO122.out)), (bC (rM HO128.out)), (bC (rM HO134.out)), (bC (rM HO140.out)), (bC (rM HO144.out)), (bA BK105.out), (bA BK113.out), (bA BK119.out), (bA BK125.out), (bA BK131.out), (bA BK137.out), (bA BK147.out), GW147.out, GE147.out, NB105_147.out, NB147_105.out, NB113_147.out, NB147_113.out, NB119_147.out, NB147_119.out, NB125_147.out, NB147_125.out, NB131_147.out, NB147_131.out, NB137_147.out, NB147_137.out, (bB HB.out)⟩)
 rintro ⟨v139, v143, gb147⟩ w87 ⟨hS_, h0_, h1_, h2_, h3_, h4_, h5_, h6_, h7_, h8_, h9_, h10_, h11_, h12_, h13_, h14_, h15_, h16_, h17_, h18_, h19_, h20_, h21_, h22_, h23_, h24_, h25_, h26_, h27_, h28_, h29_, h30_⟩
 have n0_ : Aside0 (Kd.R (Kd.int .i64) 3 w87 w.heap.size (fun k_ => NS k_ Ao42 t109 co42 ∧ NS k_ Ao47 t114 co47 ∧ NS k_ Ao55 t120 co55 ∧ NS k_ Ao64 t126 co64 ∧ NS k_ Ao74 t132 co74 ∧ NB k_ (v139) ∧ NB k_ (v143)) (.slice Ao36 t101.length co36) t101) := ⟨h0_⟩
 have n1_ : Aside0 (Kd.R (Kd.int .u8) 5 w87 w.heap.size (fun _ => True) (.slice Ao39 t106.length co39) t106) := ⟨h1_⟩
 have n2_ : Aside0 (Kd.R (Kd.int .i64) 3 w87 w.heap.size (fun k_ => NS k_ Ao36 t101 co36 ∧ NS k_ Ao47 t114 co47 ∧ NS k_ Ao55 t120 co55 ∧ NS k_ Ao64 t126 co64 ∧ NS k_ Ao74 t132 co74 ∧ NB k_ (v139) ∧ NB k_ (v143)) (.slice Ao42 t109.length co42) t109) := ⟨h2_⟩
 have n3_ : Aside0 (Kd.R (Kd.int .i64) 3 w87 w.heap.size (fun k_ => NS k_ Ao36 t101 co36 ∧ NS k_ Ao42 t109 co42 ∧ NS k_ Ao55 t120 co55 ∧ NS k_ Ao64 t126 co64 ∧ NS k_ Ao74 t132 co74 ∧ NB k_ (v139) ∧ NB k_ (v143)) (.slice Ao47 t114.length co47) t114) := ⟨h3_⟩
 have n4_ : Aside0 (Kd.R (Kd.int .i64) 3 w87 w.heap.size (fun k_ => NS k_ Ao36 t101 co36 ∧ NS k_ Ao42 t109 co42 ∧ NS k_ Ao47 t114 co47 ∧ NS k_ Ao64 t126 co64 ∧ NS k_ Ao74 t132 co74 ∧ NB k_ (v139) ∧ NB k_ (v143)) (.slice Ao55 t120.length co55) t120) := ⟨h4_⟩
 have n5_ : Aside0 (Kd.R (Kd.int .i64) 3 w87 w.heap.size (fun k_ => NS k_ Ao36 t101 co36 ∧ NS k_ Ao42 t109 co42 ∧ NS k_ Ao47 t114 co47 ∧ NS k_ Ao55 t120 co55 ∧ NS k_ Ao74 t132 co74 ∧ NB k_ (v139) ∧ NB k_ (v143)) (.slice Ao64 t126.length co64) t126) := ⟨h5_⟩
 have n6_ : Aside0 (Kd.R (Kd.int .i64) 3 w87 w.heap.size (fun k_ => NS k_ Ao36 t101 co36 ∧ NS k_ Ao42 t109 co42 ∧ NS k_ Ao47 t114 co47 ∧ NS k_ Ao55 t120 co55 ∧ NS k_ Ao64 t126 co64 ∧ NB k_ (v139) ∧ NB k_ (v143)) (.slice Ao74 t132.length co74) t132) := ⟨h6_⟩
 have n7_ : Aside0 (Kd.R (Kd.int .i64) 3 w87 w.heap.size (fun k_ => NS k_ Ao36 t101 co36 ∧ NS k_ Ao42 t109 co42 ∧ NS k_ Ao47 t114 co47 ∧ NS k_ Ao55 t120 co55 ∧ NS k_ Ao64 t126 co64 ∧ NS k_ Ao74 t132 co74 ∧ NB k_ (v143)) v139 t138) := ⟨h7_⟩
 have n8_ : Aside0 (Kd.R (Kd.int .i64) 3 w87 w.heap.size (fun k_ => NS k_ Ao36 t101 co36 ∧ NS k_ Ao42 t109 co42 ∧ NS k_ Ao47 t114 co47 ∧ NS k_ Ao55 t120 co55 ∧ NS k_ Ao64 t126 co64 ∧ NS k_ Ao74 t132 co74 ∧ NB k_ (v139)) v143 t142) := ⟨h8_⟩
 have n9_ : Aside0 (w87.heap[gb105]? = some (.cells #[.slice Ao36 t101.length co36, .int .i64 t104] 27 (0, 0))) := ⟨h9_⟩
 have n10_ : Aside0 (w87.heap[gb113]? = some (.cells #[.slice Ao42 t109.length co42, .int .i64 t112] 27 (0, 0))) := ⟨h10_⟩
 have n11_ : Aside0 (w87.heap[gb119]? = some (.cells #[.slice Ao47 t114.length co47, .int .i64 t117] 27 (0, 0))) := ⟨h11_⟩
 have n12_ : Aside0 (w87.heap[gb125]? = some (.cells #[.slice Ao55 t120.length co55, .int .i64 t123] 27 (0, 0))) := ⟨h12_⟩
 have n13_ : Aside0 (w87.heap[gb131]? = some (.cells #[.slice Ao64 t126.length co64, .int .i64 t129] 27 (0, 0))) := ⟨h13_⟩
 have n14_ : Aside0 (w87.heap[gb137]? = some (.cells #[.slice Ao74 t132.length co74, .int .i64 t135] 27 (0, 0))) := ⟨h14_⟩
 have n15_ : Aside0 (w87.heap[gb147]? = some (.cells #[.slice none 0 0, .int .i64 0] 27 (0, 0))) := ⟨h15_⟩
 have n16_ : Aside0 (w.heap.size ≤ gb147) := ⟨h16_⟩
 have n17_ : Aside0 (w.heap.size ≤ gb147) := ⟨h17_⟩
 have n18_ : Aside0 (gb105 ≠ gb147) := ⟨h18_⟩
 have n19_ : Aside0 (gb147 ≠ gb105) := ⟨h19_⟩
 have n20_ : Aside0 (gb113 ≠ gb147) := ⟨h20_⟩
 have n21_ : Aside0 (gb147 ≠ gb113) := ⟨h21_⟩
 have n22_ : Aside0 (gb119 ≠ gb147) := ⟨h22_⟩
 have n23_ : Aside0 (gb147 ≠ gb119) := ⟨h23_⟩
 have n24_ : Aside0 (gb125 ≠ gb147) := ⟨h24_⟩
 have n25_ : Aside0 (gb147 ≠ gb125) := ⟨h25_⟩
 have n26_ : Aside0 (gb131 ≠ gb147) := ⟨h26_⟩
 have n27_ : Aside0 (gb147 ≠ gb131) := ⟨h27_⟩
 have n28_ : Aside0 (gb137 ≠ gb147) := ⟨h28_⟩
 have n29_ : Aside0 (gb147 ≠ gb137) := ⟨h29_⟩
 have n30_ : Aside0 (Below w.heap.size w w87) := ⟨h30_⟩
 clear HO103 HO108; clear HO111 HO116; clear HO122 HO128; clear HO134 BK105; clear BK113 BK119; clear BK125 BK131; clear BK137 HB; clear h0_ h1_ h2_ h3_ h4_ h5_ h6_ h7_ h8_ h9_ h10_ h11_ h12_ h13_ h14_ h15_ h16_ h17_ h18_ h19_ h20_ h21_ h22_ h23_ h24_ h25_ h26_ h27_ h28_ h29_ h30_; have HO103 := n0_; have HO108 := n1_; have HO111 := n2_; have HO116 := n3_; have HO122 := n4_; have HO128 := n5_; have HO134 := n6_; have HO140 := n7_; have HO144 := n8_; have BK105 := n9_; have BK113 := n10_; have BK119 := n11_; have BK125 := n12_; have BK131 := n13_; have BK137 := n14_; have BK147 := n15_; have GW147 := n16_; have GE147 := n17_; have NB105_147 := n18_; have NB147_105 := n19_; have NB113_147 := n20_; have NB147_113 := n21_; have NB119_147 := n22_; have NB147_119 := n23_; have NB125_147 := n24_; have NB147_125 := n25_; have NB131_147 := n26_; have NB147_131 := n27_; have NB137_147 := n28_; have NB147_137 := n29_; have HB := n30_; clear n0_ n1_ n2_ n3_ n4_ n5_ n6_ n7_ n8_ n9_ n10_ n11_ n12_ n13_ n14_ n15_ n16_ n17_ n18_ n19_ n20_ n21_ n22_ n23_ n24_ n25_ n26_ n27_ n28_ n29_ n30_
 have hHeld : w87.cell? ⟨gb105, 0, none⟩ = some (.slice Ao36 t101.length co36) ∧ w87.cell? ⟨gb105, 1, none⟩ = some (.int .i64 t104) ∧ w87.cell? ⟨gb113, 0, none⟩ = some (.slice Ao42 t109.length co42) ∧ w87.cell? ⟨gb113, 1, none⟩ = some (.int .i64 t112) := hS_
 obtain ⟨Ao88, co88, eo88⟩ := Kd.R_slice HO144.out
 (first | subst eo88 | (injection eo88 with f1_ f2_ f3_; have f4_ := f1_.symm; have f5_ := f3_.symm; clear f1_ f2_ f3_; subst f4_; subst f5_))
 refine norm_ (a' := ?_) ?_ ?_; rotate_left
 ·simp only [putAll, Act.put, qa9, qb9, qc9]
  rfl
 refine one_ (i := 8) (N := none) q9_14 rfl rfl (one_of HT_.out (by kernel_rfl)) (by decide) (fun K hK => ?_)
 have hs89 : w87.cell? ⟨gb147, 0, none⟩ = some (.slice none 0 0) := (blk_cell BK147.out 0).trans rfl
 have hfs89 := blk_frozen BK147.out 0; have hns89_0 := NB105_147.out; have hns89_1 := NB113_147.out; have hns89_2 := NB119_147.out; have hns89_3 := NB125_147.out; have hns89_4 := NB131_147.out; have hns89_5 := NB137_147.out; have hms89_0 := NB147_105.out; have hms89_1 := NB147_113.out; have hms89_2 := NB147_119.out; have hms89_3 := NB147_125.out; have hms89_4 := NB147_131.out; have hms89_5 := NB147_137.out
 have hs90 : w87.cell? ⟨gb147, 1, none⟩ = some (.int .i64 0) := (blk_cell BK147.out 1).trans rfl
 have hfs90 := blk_frozen BK147.out 1; have hns90_0 := NB105_147.out; have hns90_1 := NB113_147.out; have hns90_2 := NB119_147.out; have hns90_3 := NB125_147.out; have hns90_4 := NB131_147.out; have hns90_5 := NB137_147.out; have hms90_0 := NB147_105.out; have hms90_1 := NB147_113.out; have hms90_2 := NB147_119.out; have hms90_3 := NB147_125.out; have hms90_4 := NB147_131.out; have hms90_5 := NB147_137.out
 refine skip_ (w1 := ?_) (by rfl) rfl ?_ ?_; rotate_left
 ·go_simp
  rfl
 refine hK.out _ _ ⟨((cell_far (p := ⟨gb147, _, none⟩) NB105_147.out _).trans (((cell_far (p := ⟨gb147, _, none⟩) NB105_147.out _).trans (hHeld.1)))), ((cell_far (p := ⟨gb147, _, none⟩) NB105_147.out _).trans (((cell_far (p := ⟨gb147, _, none⟩) NB105_147.out _).trans (hHeld.2.1)))), ((cell_far (p := ⟨gb147, _, none⟩) NB113_147.out _).trans (((cell_far (p := ⟨gb147, _, none⟩) NB113_147.out _).trans (hHeld.2.2.1)))), ((cell_far (p := ⟨gb147, _, none⟩) NB113_147.out _).trans (((cell_far (p := ⟨gb147, _, none⟩) NB113_147.out _).trans (hHeld.2.2.2))))⟩ (fun hHeld => ?_)
 clear hK K
 refine pure_ (i := 9) (N := some 14) (v := ?_) (a' := ?_) q9_15 rfl rfl (any_of HT_.out (by kernel_rfl)) (fun _ _ _ h => h) (Or.inl ⟨by rfl, ?_⟩) ?_ ?_; rotate_left
 ·intro w'
  go_simp; with_reducible rfl
 rotate_left
 ·simp only [Act.put, qa9, qb9, qc9, i64_w, i32_w]
  rfl
 refine done_ (done_of HT_.out (by kernel_rfl)) ?_
 have hnb91 := NB105_147.out; have hnc91 := NB147_105.out
 have hcz92_0 : w87.cell? ⟨gb105, 0, none⟩ = some (.slice Ao36 t101.length co36) := (blk_cell BK105.out 0).trans rfl
 have hcz92_1 : w87.cell? ⟨gb105, 1, none⟩ = some (.int .i64 t104) := (blk_cell BK105.out 1).trans rfl
 have hfz92_0 := blk_frozen BK105.out 0; have hfz92_1 := blk_frozen BK105.out 1
 try go_wp2_with (first | ((with_reducible refine gate_callee (f := 38) rfl ?_); refine goesL_ (some 61) rfl rfl Try.func38 (by kernel_rfl) rfl #[.agg #[.slice Ao36 t101.length co36, .int .i64 t104], .agg #[.slice Ao36 t101.length co36, .int .i64 t104]] rfl bE ?_; (with_reducible refine (impl_SubFloats.calls k _ _ t101 t104 _ _ t101 t104 t148 t151 true _ ?side1 ?side2 ?side3 ?side4 A12.out).mono ?_); (case side1 => refine (Kd.R_reads' (e := 3) (base := w.heap.size) (ok := fun k_ => (NS k_ Ao42 t109 co42 ∧ (NS k_ Ao47 t114 co47 ∧ (NS k_ Ao55 t120 co55 ∧ (NS k_ Ao64 t126 co64 ∧ (NS k_ Ao74 t132 co74 ∧ (NB k_ (v139) ∧ NS k_ Ao88 t142 co88))))))) (n := t101.length) (c := co36) ?_).2.2; exact (bC ((Kd.R_mono (Kd.R_far (p := ⟨gb147, 1, none⟩) (Kd.R_far (p := ⟨gb147, 0, none⟩) (Kd.R_types HO103.out BK147.out (by decide)) (fun _ hk => hk.2) (.slice Ao88 t142.length co88)) (fun _ hk => hk.2) (.int .i64 t145)) (fun _ h_ => h_.1))))); (case side2 => exact (Kd.R_reads' HO103.out).2.1); (case side3 => refine (Kd.R_reads' (e := 3) (base := w.heap.size) (ok := fun k_ => (NS k_ Ao42 t109 co42 ∧ (NS k_ Ao47 t114 co47 ∧ (NS k_ Ao55 t120 co55 ∧ (NS k_ Ao64 t126 co64 ∧ (NS k_ Ao74 t132 co74 ∧ (NB k_ (v139) ∧ NS k_ Ao88 t142 co88))))))) (n := t101.length) (c := co36) ?_).2.2; exact (bC ((Kd.R_mono (Kd.R_far (p := ⟨gb147, 1, none⟩) (Kd.R_far (p := ⟨gb147, 0, none⟩) (Kd.R_types HO103.out BK147.out (by decide)) (fun _ hk => hk.2) (.slice Ao88 t142.length co88)) (fun _ hk => hk.2) (.int .i64 t145)) (fun _ h_ => h_.1))))); (case side4 => exact (Kd.R_reads' HO103.out).2.1); rintro e w93 ⟨v149, rfl, ho0, hb⟩; refine ⟨_, rfl, ?_⟩; have HO150 := am (Kd.R_lower (Kd.R_new' (Kd.R_new' (Kd.R_new' (Kd.R_new' (Kd.R_new' (Kd.R_new' (Kd.R_new' (Kd.R_new' ho0 (Kd.R_lt (bC ((Kd.R_mono (Kd.R_far (p := ⟨gb147, 1, none⟩) (Kd.R_far (p := ⟨gb147, 0, none⟩) (Kd.R_types HO103.out BK147.out (by decide)) (fun _ hk => hk.2) (.slice Ao88 t142.length co88)) (fun _ hk => hk.2) (.int .i64 t145)) (fun _ h_ => h_.1)))))) (Kd.R_lt (bC ((Kd.R_mono (Kd.R_far (p := ⟨gb147, 1, none⟩) (Kd.R_far (p := ⟨gb147, 0, none⟩) (Kd.R_types HO111.out BK147.out (by decide)) (fun _ hk => hk.2) (.slice Ao88 t142.length co88)) (fun _ hk => hk.2) (.int .i64 t145)) (fun _ h_ => h_.1)))))) (Kd.R_lt (bC ((Kd.R_mono (Kd.R_far (p := ⟨gb147, 1, none⟩) (Kd.R_far (p := ⟨gb147, 0, none⟩) (Kd.R_types HO116.out BK147.out (by decide)) (fun _ hk => hk.2) (.slice Ao88 t142.length co88)) (fun _ hk => hk.2) (.int .i64 t145)) (fun _ h_ => h_.1)))))) (Kd.R_lt (bC ((Kd.R_mono (Kd.R_far (p := ⟨gb147, 1, none⟩) (Kd.R_far (p := ⟨gb147, 0, none⟩) (Kd.R_types HO122.out BK147.out (by decide)) (fun _ hk => hk.2) (.slice Ao88 t142.length co88)) (fun _ hk => hk.2) (.int .i64 t145)) (fun _ h_ => h_.1)))))) (Kd.R_lt (bC ((Kd.R_mono (Kd.R_far (p := ⟨gb147, 1, none⟩) (Kd.R_far (p := ⟨gb147, 0, none⟩) (Kd.R_types HO128.out BK147.out (by decide)) (fun _ hk => hk.2) (.slice Ao88 t142.length co88)) (fun _ hk => hk.2) (.int .i64 t145)) (fun _ h_ => h_.1)))))) (Kd.R_lt (bC ((Kd.R_mono (Kd.R_far (p := ⟨gb147, 1, none⟩) (Kd.R_far (p := ⟨gb147, 0, none⟩) (Kd.R_types HO134.out BK147.out (by decide)) (fun _ hk => hk.2) (.slice Ao88 t142.length co88)) (fun _ hk => hk.2) (.int .i64 t145)) (fun _ h_ => h_.1)))))) (Kd.R_lt (bC ((Kd.R_mono (Kd.R_far (p := ⟨gb147, 1, none⟩) (Kd.R_far (p := ⟨gb147, 0, none⟩) (Kd.R_types HO140.out BK147.out (by decide)) (fun _ hk => hk.2) (.slice Ao88 t142.length co88)) (fun _ hk => hk.2) (.int .i64 t145)) (fun _ h_ => h_.1)))))) (Kd.R_lt (bC ((Kd.R_mono (Kd.R_far (p := ⟨gb147, 1, none⟩) (Kd.R_far (p := ⟨gb147, 0, none⟩) (Kd.R_types HO144.out BK147.out (by decide)) (fun _ hk => hk.2) (.slice Ao88 t142.length co88)) (fun _ hk => hk.2) (.int .i64 t145)) (fun _ h_ => h_.1)))))) (below_size (bB HB.out))); replace HO103 := am (Kd.R_elder' (bC ((Kd.R_mono (Kd.R_far (p := ⟨gb147, 1, none⟩) (Kd.R_far (p := ⟨gb147, 0, none⟩) (Kd.R_types HO103.out BK147.out (by decide)) (fun _ hk => hk.2) (.slice Ao88 t142.length co88)) (fun _ hk => hk.2) (.int .i64 t145)) (fun _ h_ => h_.1)))) (Kd.R_base ho0) hb); replace HO108 := am (Kd.R_below (bC ((Kd.R_mono (Kd.R_far (p := ⟨gb147, 1, none⟩) (Kd.R_far (p := ⟨gb147, 0, none⟩) (Kd.R_types HO108.out BK147.out (by decide)) (fun _ hk => hk.2) (.slice Ao88 t142.length co88)) (fun _ hk => hk.2) (.int .i64 t145)) (fun _ h_ => h_.1)))) hb); replace HO111 := am (Kd.R_elder' (bC ((Kd.R_mono (Kd.R_far (p := ⟨gb147, 1, none⟩) (Kd.R_far (p := ⟨gb147, 0, none⟩) (Kd.R_types HO111.out BK147.out (by decide)) (fun _ hk => hk.2) (.slice Ao88 t142.length co88)) (fun _ hk => hk.2) (.int .i64 t145)) (fun _ h_ => h_.1)))) (Kd.R_base ho0) hb); replace HO116 := am (Kd.R_elder' (bC ((Kd.R_mono (Kd.R_far (p := ⟨gb147, 1, none⟩) (Kd.R_far (p := ⟨gb147, 0, none⟩) (Kd.R_types HO116.out BK147.out (by decide)) (fun _ hk => hk.2) (.slice Ao88 t142.length co88)) (fun _ hk => hk.2) (.int .i64 t145)) (fun _ h_ => h_.1)))) (Kd.R_base ho0) hb); replace HO122 := am (Kd.R_elder' (bC ((Kd.R_mono (Kd.R_far (p := ⟨gb147, 1, none⟩) (Kd.R_far (p := ⟨gb147, 0, none⟩) (Kd.R_types HO122.out BK147.out (by decide)) (fun _ hk => hk.2) (.slice Ao88 t142.length co88)) (fun _ hk => hk.2) (.int .i64 t145)) (fun _ h_ => h_.1)))) (Kd.R_base ho0) hb); replace HO128 := am (Kd.R_elder' (bC ((Kd.R_mono (Kd.R_far (p := ⟨gb147, 1, none⟩) (Kd.R_far (p := ⟨gb147, 0, none⟩) (Kd.R_types HO128.out BK147.out (by decide)) (fun _ hk => hk.2) (.slice Ao88 t142.length co88)) (fun _ hk => hk.2) (.int .i64 t145)) (fun _ h_ => h_.1)))) (Kd.R_base ho0) hb); replace HO134 := am (Kd.R_elder' (bC ((Kd.R_mono (Kd.R_far (p := ⟨gb147, 1, none⟩) (Kd.R_far (p := ⟨gb147, 0, none⟩) (Kd.R_types HO134.out BK147.out (by decide)) (fun _ hk => hk.2) (.slice Ao88 t142.length co88)) (fun _ hk => hk.2) (.int .i64 t145)) (fun _ h_ => h_.1)))) (Kd.R_base ho0) hb); replace HO140 := am (Kd.R_elder' (bC ((Kd.R_mono (Kd.R_far (p := ⟨gb147, 1, none⟩) (Kd.R_far (p := ⟨gb147, 0, none⟩) (Kd.R_types HO140.out BK147.out (by decide)) (fun _ hk => hk.2) (.slice Ao88 t142.length co88)) (fun _ hk => hk.2) (.int .i64 t145)) (fun _ h_ => h_.1)))) (Kd.R_base ho0) hb); replace HO144 := am (Kd.R_elder' (bC ((Kd.R_mono (Kd.R_far (p := ⟨gb147, 1, none⟩) (Kd.R_far (p := ⟨gb147, 0, none⟩) (Kd.R_types HO144.out BK147.out (by decide)) (fun _ hk => hk.2) (.slice Ao88 t142.length co88)) (fun _ hk => hk.2) (.int .i64 t145)) (fun _ h_ => h_.1)))) (Kd.R_base ho0) hb); replace BK105 := am (blk_below (g := gb105) (o := .cells #[.slice Ao36 t101.length co36, .int .i64 t104] 27 (0, 0)) (bG BK105.out NB105_147.out) hb); replace BK113 := am (blk_below (g := gb113) (o := .cells #[.slice Ao42 t109.length co42, .int .i64 t112] 27 (0, 0)) (bG BK113.out NB113_147.out) hb); replace BK119 := am (blk_below (g := gb119) (o := .cells #[.slice Ao47 t114.length co47, .int .i64 t117] 27 (0, 0)) (bG BK119.out NB119_147.out) hb); replace BK125 := am (blk_below (g := gb125) (o := .cells #[.slice Ao55 t120.length co55, .int .i64 t123] 27 (0, 0)) (bG BK125.out NB125_147.out) hb); replace BK131 := am (blk_below (g := gb131) (o := .cells #[.slice Ao64 t126.length co64, .int .i64 t129] 27 (0, 0)) (bG BK131.out NB131_147.out) hb); replace BK137 := am (blk_below (g := gb137) (o := .cells #[.slice Ao74 t132.length co74, .int .i64 t135] 27 (0, 0)) (bG BK137.out NB137_147.out) hb); replace BK147 := am (blk_below (g := gb147) (o := .cells #[.slice Ao88 t142.length co88, .int .i64 t145] 27 (0, 0)) (by (with_reducible repeat (first | refine blk_drewN ?_ _ | refine blk_drew ?_ | refine blk_alloc ?_ _)); refine blk_put (cs := #[.slice Ao88 t142.length co88, .int .i64 0]) ?_ 1 _ rfl; (with_reducible repeat (first | refine blk_drewN ?_ _ | refine blk_drew ?_ | refine blk_alloc ?_ _)); refine blk_put (cs := #[.slice none 0 0, .int .i64 0]) ?_ 0 _ rfl; (with_reducible repeat (first | refine blk_drewN ?_ _ | refine blk_drew ?_ | refine blk_alloc ?_ _)); exact BK147.out) hb); replace HB := am (below_step (bB HB.out) hb); (try clear hb); (try clear hb2); (try clear hk); (try clear hi); (try clear ho0); clear A12) | ((with_reducible refine gate_dst (N := 15) rfl ?_); refine box_event ?hg (N := 15) ?hd (cs := #[.slice none 0 0, .int .i64 0]) (t := 27) ?hr ?_; (case hd => rfl); (case hg => rfl); (case hr => first | (go_simp; done) | (go_simp; rfl)); intro gb153 hg w94 hbox hb; have BK153 := am (hbox); have GW153 := am ((by rw [hg]; exact (below_size (bB HB.out)) : w.heap.size ≤ gb153)); have GE153 := am ((by rw [hg]; exact (below_size (bB HB.out)) : w.heap.size ≤ gb153)); have NB105_153 := am ((by rw [hg]; exact Nat.ne_of_lt (blk_lt (g := gb105) (o := .cells #[.slice Ao36 t101.length co36, .int .i64 t104] 27 (0, 0)) (bA BK105.out)) : gb105 ≠ gb153)); have NB153_105 := am ((by rw [hg]; exact Nat.ne_of_gt (blk_lt (g := gb105) (o := .cells #[.slice Ao36 t101.length co36, .int .i64 t104] 27 (0, 0)) (bA BK105.out)) : gb153 ≠ gb105)); have NB113_153 := am ((by rw [hg]; exact Nat.ne_of_lt (blk_lt (g := gb113) (o := .cells #[.slice Ao42 t109.length co42, .int .i64 t112] 27 (0, 0)) (bA BK113.out)) : gb113 ≠ gb153)); have NB153_113 := am ((by rw [hg]; exact Nat.ne_of_gt (blk_lt (g := gb113) (o := .cells #[.slice Ao42 t109.length co42, .int .i64 t112] 27 (0, 0)) (bA BK113.out)) : gb153 ≠ gb113)); have NB119_153 := am ((by rw [hg]; exact Nat.ne_of_lt (blk_lt (g := gb119) (o := .cells #[.slice Ao47 t114.length co47, .int .i64 t117] 27 (0, 0)) (bA BK119.out)) : gb119 ≠ gb153)); have NB153_119 := am ((by rw [hg]; exact Nat.ne_of_gt (blk_lt (g := gb119) (o := .cells #[.slice Ao47 t114.length co47, .int .i64 t117] 27 (0, 0)) (bA BK119.out)) : gb153 ≠ gb119)); have NB125_153 := am ((by rw [hg]; exact Nat.ne_of_lt (blk_lt (g := gb125) (o := .cells #[.slice Ao55 t120.length co55, .int .i64 t123] 27 (0, 0)) (bA BK125.out)) : gb125 ≠ gb153)); have NB153_125 := am ((by rw [hg]; exact Nat.ne_of_gt (blk_lt (g := gb125) (o := .cells #[.slice Ao55 t120.length co55, .int .i64 t123] 27 (0, 0)) (bA BK125.out)) : gb153 ≠ gb125)); have NB131_153 := am ((by rw [hg]; exact Nat.ne_of_lt (blk_lt (g := gb131) (o := .cells #[.slice Ao64 t126.length co64, .int .i64 t129] 27 (0, 0)) (bA BK131.out)) : gb131 ≠ gb153)); have NB153_131 := am ((by rw [hg]; exact Nat.ne_of_gt (blk_lt (g := gb131) (o := .cells #[.slice Ao64 t126.length co64, .int .i64 t129] 27 (0, 0)) (bA BK131.out)) : gb153 ≠ gb131)); have NB137_153 := am ((by rw [hg]; exact Nat.ne_of_lt (blk_lt (g := gb137) (o := .cells #[.slice Ao74 t132.length co74, .int .i64 t135] 27 (0, 0)) (bA BK137.out)) : gb137 ≠ gb153)); have NB153_137 := am ((by rw [hg]; exact Nat.ne_of_gt (blk_lt (g := gb137) (o := .cells #[.slice Ao74 t132.length co74, .int .i64 t135] 27 (0, 0)) (bA BK137.out)) : gb153 ≠ gb137)); have NB147_153 := am ((by rw [hg]; exact Nat.ne_of_lt (blk_lt (g := gb147) (o := .cells #[.slice Ao88 t142.length co88, .int .i64 t145] 27 (0, 0)) (bA BK147.out)) : gb147 ≠ gb153)); have NB153_147 := am ((by rw [hg]; exact Nat.ne_of_gt (blk_lt (g := gb147) (o := .cells #[.slice Ao88 t142.length co88, .int .i64 t145] 27 (0, 0)) (bA BK147.out)) : gb153 ≠ gb147)); replace HO103 := am (Kd.R_below (bC HO103.out) hb); replace HO108 := am (Kd.R_below (bC HO108.out) hb); replace HO111 := am (Kd.R_below (bC HO111.out) hb); replace HO116 := am (Kd.R_below (bC HO116.out) hb); replace HO122 := am (Kd.R_below (bC HO122.out) hb); replace HO128 := am (Kd.R_below (bC HO128.out) hb); replace HO134 := am (Kd.R_below (bC HO134.out) hb); replace HO140 := am (Kd.R_below (bC HO140.out) hb); replace HO144 := am (Kd.R_below (bC HO144.out) hb); replace HO150 := am (Kd.R_below (bC HO150.out) hb); replace BK105 := am (blk_below (bA BK105.out) hb); replace BK113 := am (blk_below (bA BK113.out) hb); replace BK119 := am (blk_below (bA BK119.out) hb); replace BK125 := am (blk_below (bA BK125.out) hb); replace BK131 := am (blk_below (bA BK131.out) hb); replace BK137 := am (blk_below (bA BK137.out) hb); replace BK147 := am (blk_below (bA BK147.out) hb); replace HB := am (below_step (bB HB.out) hb); clear hb hbox hg; obtain ⟨Ao95, co95, eo95⟩ := Kd.R_slice HO150.out; subst eo95; have hnb96 := NB153_105.out; have hnc96 := NB105_153.out; have hnb97 := NB153_113.out; have hnc97 := NB113_153.out; have hnb98 := NB153_119.out; have hnc98 := NB119_153.out; have hnb99 := NB153_125.out; have hnc99 := NB125_153.out; have hnb100 := NB153_131.out; have hnc100 := NB131_153.out; have hnb101 := NB153_137.out; have hnc101 := NB137_153.out; have hnb102 := NB153_147.out; have hnc102 := NB147_153.out; have hcz103_0 : w94.cell? ⟨gb153, 0, none⟩ = some (.slice none 0 0) := (blk_cell BK153.out 0).trans rfl; have hcz103_1 : w94.cell? ⟨gb153, 1, none⟩ = some (.int .i64 0) := (blk_cell BK153.out 1).trans rfl; have hfz103_0 := blk_frozen BK153.out 0; have hfz103_1 := blk_frozen BK153.out 1; have hcz104_0 : w94.cell? ⟨gb105, 0, none⟩ = some (.slice Ao36 t101.length co36) := (blk_cell BK105.out 0).trans rfl; have hcz104_1 : w94.cell? ⟨gb105, 1, none⟩ = some (.int .i64 t104) := (blk_cell BK105.out 1).trans rfl; have hfz104_0 := blk_frozen BK105.out 0; have hfz104_1 := blk_frozen BK105.out 1; have hnb105 := NB119_147.out; have hnc105 := NB147_119.out; have hcz106_0 : w94.cell? ⟨gb119, 0, none⟩ = some (.slice Ao47 t114.length co47) := (blk_cell BK119.out 0).trans rfl; have hcz106_1 : w94.cell? ⟨gb119, 1, none⟩ = some (.int .i64 t117) := (blk_cell BK119.out 1).trans rfl; have hfz106_0 := blk_frozen BK119.out 0; have hfz106_1 := blk_frozen BK119.out 1) | ((with_reducible refine gate_callee (f := 22) rfl ?_); refine goesL_ (some 67) rfl rfl Try.func22 (by kernel_rfl) rfl #[.agg #[.slice Ao36 t101.length co36, .int .i64 t104], .agg #[.slice Ao47 t114.length co47, .int .i64 t117]] rfl bE ?_; (with_reducible refine (impl_AddFloats.calls k _ _ t101 t104 _ _ t114 t117 t154 t157 true _ ?side1 ?side2 ?side3 ?side4 A13.out).mono ?_); (case side1 => refine (Kd.R_reads' (e := 3) (base := w.heap.size) (ok := fun k_ => ((NS k_ Ao42 t109 co42 ∧ (NS k_ Ao47 t114 co47 ∧ (NS k_ Ao55 t120 co55 ∧ (NS k_ Ao64 t126 co64 ∧ (NS k_ Ao74 t132 co74 ∧ (NB k_ (v139) ∧ NS k_ Ao88 t142 co88)))))) ∧ NS k_ Ao95 t148 co95)) (n := t101.length) (c := co36) ?_).2.2; exact (bC ((Kd.R_mono (Kd.R_far (p := ⟨gb153, 1, none⟩) (Kd.R_far (p := ⟨gb153, 0, none⟩) (Kd.R_types HO103.out BK153.out (by decide)) (fun _ hk => hk.2) (.slice Ao95 t148.length co95)) (fun _ hk => hk.2) (.int .i64 t151)) (fun _ h_ => h_.1))))); (case side2 => exact (Kd.R_reads' HO103.out).2.1); (case side3 => refine (Kd.R_reads' (e := 3) (base := w.heap.size) (ok := fun k_ => ((NS k_ Ao36 t101 co36 ∧ (NS k_ Ao42 t109 co42 ∧ (NS k_ Ao55 t120 co55 ∧ (NS k_ Ao64 t126 co64 ∧ (NS k_ Ao74 t132 co74 ∧ (NB k_ (v139) ∧ NS k_ Ao88 t142 co88)))))) ∧ NS k_ Ao95 t148 co95)) (n := t114.length) (c := co47) ?_).2.2; exact (bC ((Kd.R_mono (Kd.R_far (p := ⟨gb153, 1, none⟩) (Kd.R_far (p := ⟨gb153, 0, none⟩) (Kd.R_types HO116.out BK153.out (by decide)) (fun _ hk => hk.2) (.slice Ao95 t148.length co95)) (fun _ hk => hk.2) (.int .i64 t151)) (fun _ h_ => h_.1))))); (case side4 => exact (Kd.R_reads' HO116.out).2.1); rintro e w107 ⟨v155, rfl, ho0, hb⟩; refine ⟨_, rfl, ?_⟩; have HO156 := am (Kd.R_lower (Kd.R_new' (Kd.R_new' (Kd.R_new' (Kd.R_new' (Kd.R_new' (Kd.R_new' (Kd.R_new' (Kd.R_new' (Kd.R_new' ho0 (Kd.R_lt (bC ((Kd.R_mono (Kd.R_far (p := ⟨gb153, 1, none⟩) (Kd.R_far (p := ⟨gb153, 0, none⟩) (Kd.R_types HO103.out BK153.out (by decide)) (fun _ hk => hk.2) (.slice Ao95 t148.length co95)) (fun _ hk => hk.2) (.int .i64 t151)) (fun _ h_ => h_.1)))))) (Kd.R_lt (bC ((Kd.R_mono (Kd.R_far (p := ⟨gb153, 1, none⟩) (Kd.R_far (p := ⟨gb153, 0, none⟩) (Kd.R_types HO111.out BK153.out (by decide)) (fun _ hk => hk.2) (.slice Ao95 t148.length co95)) (fun _ hk => hk.2) (.int .i64 t151)) (fun _ h_ => h_.1)))))) (Kd.R_lt (bC ((Kd.R_mono (Kd.R_far (p := ⟨gb153, 1, none⟩) (Kd.R_far (p := ⟨gb153, 0, none⟩) (Kd.R_types HO116.out BK153.out (by decide)) (fun _ hk => hk.2) (.slice Ao95 t148.length co95)) (fun _ hk => hk.2) (.int .i64 t151)) (fun _ h_ => h_.1)))))) (Kd.R_lt (bC ((Kd.R_mono (Kd.R_far (p := ⟨gb153, 1, none⟩) (Kd.R_far (p := ⟨gb153, 0, none⟩) (Kd.R_types HO122.out BK153.out (by decide)) (fun _ hk => hk.2) (.slice Ao95 t148.length co95)) (fun _ hk => hk.2) (.int .i64 t151)) (fun _ h_ => h_.1)))))) (Kd.R_lt (bC ((Kd.R_mono (Kd.R_far (p := ⟨gb153, 1, none⟩) (Kd.R_far (p := ⟨gb153, 0, none⟩) (Kd.R_types HO128.out BK153.out (by decide)) (fun _ hk => hk.2) (.slice Ao95 t148.length co95)) (fun _ hk => hk.2) (.int .i64 t151)) (fun _ h_ => h_.1)))))) (Kd.R_lt (bC ((Kd.R_mono (Kd.R_far (p := ⟨gb153, 1, none⟩) (Kd.R_far (p := ⟨gb153, 0, none⟩) (Kd.R_types HO134.out BK153.out (by decide)) (fun _ hk => hk.2) (.slice Ao95 t148.length co95)) (fun _ hk => hk.2) (.int .i64 t151)) (fun _ h_ => h_.1)))))) (Kd.R_lt (bC ((Kd.R_mono (Kd.R_far (p := ⟨gb153, 1, none⟩) (Kd.R_far (p := ⟨gb153, 0, none⟩) (Kd.R_types HO140.out BK153.out (by decide)) (fun _ hk => hk.2) (.slice Ao95 t148.length co95)) (fun _ hk => hk.2) (.int .i64 t151)) (fun _ h_ => h_.1)))))) (Kd.R_lt (bC ((Kd.R_mono (Kd.R_far (p := ⟨gb153, 1, none⟩) (Kd.R_far (p := ⟨gb153, 0, none⟩) (Kd.R_types HO144.out BK153.out (by decide)) (fun _ hk => hk.2) (.slice Ao95 t148.length co95)) (fun _ hk => hk.2) (.int .i64 t151)) (fun _ h_ => h_.1)))))) (Kd.R_lt (bC ((Kd.R_mono (Kd.R_far (p := ⟨gb153, 1, none⟩) (Kd.R_far (p := ⟨gb153, 0, none⟩) (Kd.R_types HO150.out BK153.out (by decide)) (fun _ hk => hk.2) (.slice Ao95 t148.length co95)) (fun _ hk => hk.2) (.int .i64 t151)) (fun _ h_ => h_.1)))))) (below_size (bB HB.out))); replace HO103 := am (Kd.R_elder' (bC ((Kd.R_mono (Kd.R_far (p := ⟨gb153, 1, none⟩) (Kd.R_far (p := ⟨gb153, 0, none⟩) (Kd.R_types HO103.out BK153.out (by decide)) (fun _ hk => hk.2) (.slice Ao95 t148.length co95)) (fun _ hk => hk.2) (.int .i64 t151)) (fun _ h_ => h_.1)))) (Kd.R_base ho0) hb); replace HO108 := am (Kd.R_below (bC ((Kd.R_mono (Kd.R_far (p := ⟨gb153, 1, none⟩) (Kd.R_far (p := ⟨gb153, 0, none⟩) (Kd.R_types HO108.out BK153.out (by decide)) (fun _ hk => hk.2) (.slice Ao95 t148.length co95)) (fun _ hk => hk.2) (.int .i64 t151)) (fun _ h_ => h_.1)))) hb); replace HO111 := am (Kd.R_elder' (bC ((Kd.R_mono (Kd.R_far (p := ⟨gb153, 1, none⟩) (Kd.R_far (p := ⟨gb153, 0, none⟩) (Kd.R_types HO111.out BK153.out (by decide)) (fun _ hk => hk.2) (.slice Ao95 t148.length co95)) (fun _ hk => hk.2) (.int .i64 t151)) (fun _ h_ => h_.1)))) (Kd.R_base ho0) hb); replace HO116 := am (Kd.R_elder' (bC ((Kd.R_mono (Kd.R_far (p := ⟨gb153, 1, none⟩) (Kd.R_far (p := ⟨gb153, 0, none⟩) (Kd.R_types HO116.out BK153.out (by decide)) (fun _ hk => hk.2) (.slice Ao95 t148.length co95)) (fun _ hk => hk.2) (.int .i64 t151)) (fun _ h_ => h_.1)))) (Kd.R_base ho0) hb); replace HO122 := am (Kd.R_elder' (bC ((Kd.R_mono (Kd.R_far (p := ⟨gb153, 1, none⟩) (Kd.R_far (p := ⟨gb153, 0, none⟩) (Kd.R_types HO122.out BK153.out (by decide)) (fun _ hk => hk.2) (.slice Ao95 t148.length co95)) (fun _ hk => hk.2) (.int .i64 t151)) (fun _ h_ => h_.1)))) (Kd.R_base ho0) hb); replace HO128 := am (Kd.R_elder' (bC ((Kd.R_mono (Kd.R_far (p := ⟨gb153, 1, none⟩) (Kd.R_far (p := ⟨gb153, 0, none⟩) (Kd.R_types HO128.out BK153.out (by decide)) (fun _ hk => hk.2) (.slice Ao95 t148.length co95)) (fun _ hk => hk.2) (.int .i64 t151)) (fun _ h_ => h_.1)))) (Kd.R_base ho0) hb); replace HO134 := am (Kd.R_elder' (bC ((Kd.R_mono (Kd.R_far (p := ⟨gb153, 1, none⟩) (Kd.R_far (p := ⟨gb153, 0, none⟩) (Kd.R_types HO134.out BK153.out (by decide)) (fun _ hk => hk.2) (.slice Ao95 t148.length co95)) (fun _ hk => hk.2) (.int .i64 t151)) (fun _ h_ => h_.1)))) (Kd.R_base ho0) hb); replace HO140 := am (Kd.R_elder' (bC ((Kd.R_mono (Kd.R_far (p := ⟨gb153, 1, none⟩) (Kd.R_far (p := ⟨gb153, 0, none⟩) (Kd.R_types HO140.out BK153.out (by decide)) (fun _ hk => hk.2) (.slice Ao95 t148.length co95)) (fun _ hk => hk.2) (.int .i64 t151)) (fun _ h_ => h_.1)))) (Kd.R_base ho0) hb); replace HO144 := am (Kd.R_elder' (bC ((Kd.R_mono (Kd.R_far (p := ⟨gb153, 1, none⟩) (Kd.R_far (p := ⟨gb153, 0, none⟩) (Kd.R_types HO144.out BK153.out (by decide)) (fun _ hk => hk.2) (.slice Ao95 t148.length co95)) (fun _ hk => hk.2) (.int .i64 t151)) (fun _ h_ => h_.1)))) (Kd.R_base ho0) hb); replace HO150 := am (Kd.R_elder' (bC ((Kd.R_mono (Kd.R_far (p := ⟨gb153, 1, none⟩) (Kd.R_far (p := ⟨gb153, 0, none⟩) (Kd.R_types HO150.out BK153.out (by decide)) (fun _ hk => hk.2) (.slice Ao95 t148.length co95)) (fun _ hk => hk.2) (.int .i64 t151)) (fun _ h_ => h_.1)))) (Kd.R_base ho0) hb); replace BK105 := am (blk_below (g := gb105) (o := .cells #[.slice Ao36 t101.length co36, .int .i64 t104] 27 (0, 0)) (bG BK105.out NB105_153.out) hb); replace BK113 := am (blk_below (g := gb113) (o := .cells #[.slice Ao42 t109.length co42, .int .i64 t112] 27 (0, 0)) (bG BK113.out NB113_153.out) hb); replace BK119 := am (blk_below (g := gb119) (o := .cells #[.slice Ao47 t114.length co47, .int .i64 t117] 27 (0, 0)) (bG BK119.out NB119_153.out) hb); replace BK125 := am (blk_below (g := gb125) (o := .cells #[.slice Ao55 t120.length co55, .int .i64 t123] 27 (0, 0)) (bG BK125.out NB125_153.out) hb); replace BK131 := am (blk_below (g := gb131) (o := .cells #[.slice Ao64 t126.length co64, .int .i64 t129] 27 (0, 0)) (bG BK131.out NB131_153.out) hb); replace BK137 := am (blk_below (g := gb137) (o := .cells #[.slice Ao74 t132.length co74, .int .i64 t135] 27 (0, 0)) (bG BK137.out NB137_153.out) hb); replace BK147 := am (blk_below (g := gb147) (o := .cells #[.slice Ao88 t142.length co88, .int .i64 t145] 27 (0, 0)) (bG BK147.out NB147_153.out) hb); replace BK153 := am (blk_below (g := gb153) (o := .cells #[.slice Ao95 t148.length co95, .int .i64 t151] 27 (0, 0)) (by (with_reducible repeat (first | refine blk_drewN ?_ _ | refine blk_drew ?_ | refine blk_alloc ?_ _)); refine blk_put (cs := #[.slice Ao95 t148.length co95, .int .i64 0]) ?_ 1 _ rfl; (with_reducible repeat (first | refine blk_drewN ?_ _ | refine blk_drew ?_ | refine blk_alloc ?_ _)); refine blk_put (cs := #[.slice none 0 0, .int .i64 0]) ?_ 0 _ rfl; (with_reducible repeat (first | refine blk_drewN ?_ _ | refine blk_drew ?_ | refine blk_alloc ?_ _)); exact BK153.out) hb); replace HB := am (below_step (bB HB.out) hb); (try clear hb); (try clear hb2); (try clear hk); (try clear hi); (try clear ho0); clear A13) | ((with_reducible refine gate_dst (N := 17) rfl ?_); refine box_event ?hg (N := 17) ?hd (cs := #[.slice none 0 0, .int .i64 0]) (t := 27) ?hr ?_; (case hd => rfl); (case hg => rfl); (case hr => first | (go_simp; done) | (go_simp; rfl)); intro gb159 hg w108 hbox hb; have BK159 := am (hbox); have GW159 := am ((by rw [hg]; exact (below_size (bB HB.out)) : w.heap.size ≤ gb159)); have GE159 := am ((by rw [hg]; exact (below_size (bB HB.out)) : w.heap.size ≤ gb159)); have NB105_159 := am ((by rw [hg]; exact Nat.ne_of_lt (blk_lt (g := gb105) (o := .cells #[.slice Ao36 t101.length co36, .int .i64 t104] 27 (0, 0)) (bA BK105.out)) : gb105 ≠ gb159)); have NB159_105 := am ((by rw [hg]; exact Nat.ne_of_gt (blk_lt (g := gb105) (o := .cells #[.slice Ao36 t101.length co36, .int .i64 t104] 27 (0, 0)) (bA BK105.out)) : gb159 ≠ gb105)); have NB113_159 := am ((by rw [hg]; exact Nat.ne_of_lt (blk_lt (g := gb113) (o := .cells #[.slice Ao42 t109.length co42, .int .i64 t112] 27 (0, 0)) (bA BK113.out)) : gb113 ≠ gb159)); have NB159_113 := am ((by rw [hg]; exact Nat.ne_of_gt (blk_lt (g := gb113) (o := .cells #[.slice Ao42 t109.length co42, .int .i64 t112] 27 (0, 0)) (bA BK113.out)) : gb159 ≠ gb113)); have NB119_159 := am ((by rw [hg]; exact Nat.ne_of_lt (blk_lt (g := gb119) (o := .cells #[.slice Ao47 t114.length co47, .int .i64 t117] 27 (0, 0)) (bA BK119.out)) : gb119 ≠ gb159)); have NB159_119 := am ((by rw [hg]; exact Nat.ne_of_gt (blk_lt (g := gb119) (o := .cells #[.slice Ao47 t114.length co47, .int .i64 t117] 27 (0, 0)) (bA BK119.out)) : gb159 ≠ gb119)); have NB125_159 := am ((by rw [hg]; exact Nat.ne_of_lt (blk_lt (g := gb125) (o := .cells #[.slice Ao55 t120.length co55, .int .i64 t123] 27 (0, 0)) (bA BK125.out)) : gb125 ≠ gb159)); have NB159_125 := am ((by rw [hg]; exact Nat.ne_of_gt (blk_lt (g := gb125) (o := .cells #[.slice Ao55 t120.length co55, .int .i64 t123] 27 (0, 0)) (bA BK125.out)) : gb159 ≠ gb125)); have NB131_159 := am ((by rw [hg]; exact Nat.ne_of_lt (blk_lt (g := gb131) (o := .cells #[.slice Ao64 t126.length co64, .int .i64 t129] 27 (0, 0)) (bA BK131.out)) : gb131 ≠ gb159)); have NB159_131 := am ((by rw [hg]; exact Nat.ne_of_gt (blk_lt (g := gb131) (o := .cells #[.slice Ao64 t126.length co64, .int .i64 t129] 27 (0, 0)) (bA BK131.out)) : gb159 ≠ gb131)); have NB137_159 := am ((by rw [hg]; exact Nat.ne_of_lt (blk_lt (g := gb137) (o := .cells #[.slice Ao74 t132.length co74, .int .i64 t135] 27 (0, 0)) (bA BK137.out)) : gb137 ≠ gb159)); have NB159_137 := am ((by rw [hg]; exact Nat.ne_of_gt (blk_lt (g := gb137) (o := .cells #[.slice Ao74 t132.length co74, .int .i64 t135] 27 (0, 0)) (bA BK137.out)) : gb159 ≠ gb137)); have NB147_159 := am ((by rw [hg]; exact Nat.ne_of_lt (blk_lt (g := gb147) (o := .cells #[.slice Ao88 t142.length co88, .int .i64 t145] 27 (0, 0)) (bA BK147.out)) : gb147 ≠ gb159)); have NB159_147 := am ((by rw [hg]; exact Nat.ne_of_gt (blk_lt (g := gb147) (o := .cells #[.slice Ao88 t142.length co88, .int .i64 t145] 27 (0, 0)) (bA BK147.out)) : gb159 ≠ gb147)); have NB153_159 := am ((by rw [hg]; exact Nat.ne_of_lt (blk_lt (g := gb153) (o := .cells #[.slice Ao95 t148.length co95, .int .i64 t151] 27 (0, 0)) (bA BK153.out)) : gb153 ≠ gb159)); have NB159_153 := am ((by rw [hg]; exact Nat.ne_of_gt (blk_lt (g := gb153) (o := .cells #[.slice Ao95 t148.length co95, .int .i64 t151] 27 (0, 0)) (bA BK153.out)) : gb159 ≠ gb153)); replace HO103 := am (Kd.R_below (bC HO103.out) hb); replace HO108 := am (Kd.R_below (bC HO108.out) hb); replace HO111 := am (Kd.R_below (bC HO111.out) hb); replace HO116 := am (Kd.R_below (bC HO116.out) hb); replace HO122 := am (Kd.R_below (bC HO122.out) hb); replace HO128 := am (Kd.R_below (bC HO128.out) hb); replace HO134 := am (Kd.R_below (bC HO134.out) hb); replace HO140 := am (Kd.R_below (bC HO140.out) hb); replace HO144 := am (Kd.R_below (bC HO144.out) hb); replace HO150 := am (Kd.R_below (bC HO150.out) hb); replace HO156 := am (Kd.R_below (bC HO156.out) hb); replace BK105 := am (blk_below (bA BK105.out) hb); replace BK113 := am (blk_below (bA BK113.out) hb); replace BK119 := am (blk_below (bA BK119.out) hb); replace BK125 := am (blk_below (bA BK125.out) hb); replace BK131 := am (blk_below (bA BK131.out) hb); replace BK137 := am (blk_below (bA BK137.out) hb); replace BK147 := am (blk_below (bA BK147.out) hb); replace BK153 := am (blk_below (bA BK153.out) hb); replace HB := am (below_step (bB HB.out) hb); clear hb hbox hg; obtain ⟨Ao109, co109, eo109⟩ := Kd.R_slice HO156.out; subst eo109; have hnb110 := NB159_105.out; have hnc110 := NB105_159.out; have hnb111 := NB159_113.out; have hnc111 := NB113_159.out; have hnb112 := NB159_119.out; have hnc112 := NB119_159.out; have hnb113 := NB159_125.out; have hnc113 := NB125_159.out; have hnb114 := NB159_131.out; have hnc114 := NB131_159.out; have hnb115 := NB159_137.out; have hnc115 := NB137_159.out; have hnb116 := NB159_147.out; have hnc116 := NB147_159.out; have hnb117 := NB159_153.out; have hnc117 := NB153_159.out; have hcz118_0 : w108.cell? ⟨gb159, 0, none⟩ = some (.slice none 0 0) := (blk_cell BK159.out 0).trans rfl; have hcz118_1 : w108.cell? ⟨gb159, 1, none⟩ = some (.int .i64 0) := (blk_cell BK159.out 1).trans rfl; have hfz118_0 := blk_frozen BK159.out 0; have hfz118_1 := blk_frozen BK159.out 1))
 have n0_ : Aside0 (Kd.R (Kd.int .i64) 3 ((w108.setCell ⟨gb159, 0, none⟩ (.slice Ao109 t154.length co109)).setCell ⟨gb159, 1, none⟩ (.int .i64 t157)) w.heap.size (fun k_ => NS k_ Ao42 t109 co42 ∧ NS k_ Ao47 t114 co47 ∧ NS k_ Ao55 t120 co55 ∧ NS k_ Ao64 t126 co64 ∧ NS k_ Ao74 t132 co74 ∧ NB k_ (v139) ∧ NS k_ Ao88 t142 co88 ∧ NS k_ Ao95 t148 co95 ∧ NS k_ Ao109 t154 co109) (.slice Ao36 t101.length co36) t101) := ⟨by (with_reducible repeat (first | apply Kd.R_alloc | apply Kd.R_drewN | apply Kd.R_drew)); exact rS HO103.out BK159.out⟩
 have n1_ : Aside0 (Kd.R (Kd.int .u8) 5 ((w108.setCell ⟨gb159, 0, none⟩ (.slice Ao109 t154.length co109)).setCell ⟨gb159, 1, none⟩ (.int .i64 t157)) w.heap.size (fun _ => True) (.slice Ao39 t106.length co39) t106) := ⟨by (with_reducible repeat (first | apply Kd.R_alloc | apply Kd.R_drewN | apply Kd.R_drew)); exact rS HO108.out BK159.out⟩
 have n2_ : Aside0 (Kd.R (Kd.int .i64) 3 ((w108.setCell ⟨gb159, 0, none⟩ (.slice Ao109 t154.length co109)).setCell ⟨gb159, 1, none⟩ (.int .i64 t157)) w.heap.size (fun k_ => NS k_ Ao36 t101 co36 ∧ NS k_ Ao47 t114 co47 ∧ NS k_ Ao55 t120 co55 ∧ NS k_ Ao64 t126 co64 ∧ NS k_ Ao74 t132 co74 ∧ NB k_ (v139) ∧ NS k_ Ao88 t142 co88 ∧ NS k_ Ao95 t148 co95 ∧ NS k_ Ao109 t154 co109) (.slice Ao42 t109.length co42) t109) := ⟨by (with_reducible repeat (first | apply Kd.R_alloc | apply Kd.R_drewN | apply Kd.R_drew)); exact rS HO111.out BK159.out⟩
 have n3_ : Aside0 (Kd.R (Kd.int .i64) 3 ((w108.setCell ⟨gb159, 0, none⟩ (.slice Ao109 t154.length co109)).setCell ⟨gb159, 1, none⟩ (.int .i64 t157)) w.heap.size (fun k_ => NS k_ Ao36 t101 co36 ∧ NS k_ Ao42 t109 co42 ∧ NS k_ Ao55 t120 co55 ∧ NS k_ Ao64 t126 co64 ∧ NS k_ Ao74 t132 co74 ∧ NB k_ (v139) ∧ NS k_ Ao88 t142 co88 ∧ NS k_ Ao95 t148 co95 ∧ NS k_ Ao109 t154 co109) (.slice Ao47 t114.length co47) t114) := ⟨by (with_reducible repeat (first | apply Kd.R_alloc | apply Kd.R_drewN | apply Kd.R_drew)); exact rS HO116.out BK159.out⟩
 have n4_ : Aside0 (Kd.R (Kd.int .i64) 3 ((w108.setCell ⟨gb159, 0, none⟩ (.slice Ao109 t154.length co109)).setCell ⟨gb159, 1, none⟩ (.int .i64 t157)) w.heap.size (fun k_ => NS k_ Ao36 t101 co36 ∧ NS k_ Ao42 t109 co42 ∧ NS k_ Ao47 t114 co47 ∧ NS k_ Ao64 t126 co64 ∧ NS k_ Ao74 t132 co74 ∧ NB k_ (v139) ∧ NS k_ Ao88 t142 co88 ∧ NS k_ Ao95 t148 co95 ∧ NS k_ Ao109 t154 co109) (.slice Ao55 t120.length co55) t120) := ⟨by (with_reducible repeat (first | apply Kd.R_alloc | apply Kd.R_drewN | apply Kd.R_drew)); exact rS HO122.out BK159.out⟩
 have n5_ : Aside0 (Kd.R (Kd.int .i64) 3 ((w108.setCell ⟨gb159, 0, none⟩ (.slice Ao109 t154.length co109)).setCell ⟨gb159, 1, none⟩ (.int .i64 t157)) w.heap.size (fun k_ => NS k_ Ao36 t101 co36 ∧ NS k_ Ao42 t109 co42 ∧ NS k_ Ao47 t114 co47 ∧ NS k_ Ao55 t120 co55 ∧ NS k_ Ao74 t132 co74 ∧ NB k_ (v139) ∧ NS k_ Ao88 t142 co88 ∧ NS k_ Ao95 t148 co95 ∧ NS k_ Ao109 t154 co109) (.slice Ao64 t126.length co64) t126) := ⟨by (with_reducible repeat (first | apply Kd.R_alloc | apply Kd.R_drewN | apply Kd.R_drew)); exact rS HO128.out BK159.out⟩
 have n6_ : Aside0 (Kd.R (Kd.int .i64) 3 ((w108.setCell ⟨gb159, 0, none⟩ (.slice Ao109 t154.length co109)).setCell ⟨gb159, 1, none⟩ (.int .i64 t157)) w.heap.size (fun k_ => NS k_ Ao36 t101 co36 ∧ NS k_ Ao42 t109 co42 ∧ NS k_ Ao47 t114 co47 ∧ NS k_ Ao55 t120 co55 ∧ NS k_ Ao64 t126 co64 ∧ NB k_ (v139) ∧ NS k_ Ao88 t142 co88 ∧ NS k_ Ao95 t148 co95 ∧ NS k_ Ao109 t154 co109) (.slice Ao74 t132.length co74) t132) := ⟨by (with_reducible repeat (first | apply Kd.R_alloc | apply Kd.R_drewN | apply Kd.R_drew)); exact rS HO134.out BK159.out⟩
 have n7_ : Aside0 (Kd.R (Kd.int .i64) 3 ((w108.setCell ⟨gb159, 0, none⟩ (.slice Ao109 t154.length co109)).setCell ⟨gb159, 1, none⟩ (.int .i64 t157)) w.heap.size (fun k_ => NS k_ Ao36 t101 co36 ∧ NS k_ Ao42 t109 co42 ∧ NS k_ Ao47 t114 co47 ∧ NS k_ Ao55 t120 co55 ∧ NS k_ Ao64 t126 co64 ∧ NS k_ Ao74 t132 co74 ∧ NS k_ Ao88 t142 co88 ∧ NS k_ Ao95 t148 co95 ∧ NS k_ Ao109 t154 co109) v139 t138) := ⟨by (with_reducible repeat (first | apply Kd.R_alloc | apply Kd.R_drewN | apply Kd.R_drew)); exact rS HO140.out BK159.out⟩
 have n8_ : Aside0 (Kd.R (Kd.int .i64) 3 ((w108.setCell ⟨gb159, 0, none⟩ (.slice Ao109 t154.length co109)).setCell ⟨gb159, 1, none⟩ (.int .i64 t157)) w.heap.size (fun k_ => NS k_ Ao36 t101 co36 ∧ NS k_ Ao42 t109 co42 ∧ NS k_ Ao47 t114 co47 ∧ NS k_ Ao55 t120 co55 ∧ NS k_ Ao64 t126 co64 ∧ NS k_ Ao74 t132 co74 ∧ NB k_ (v139) ∧ NS k_ Ao95 t148 co95 ∧ NS k_ Ao109 t154 co109) (.slice Ao88 t142.length co88) t142) := ⟨by (with_reducible repeat (first | apply Kd.R_alloc | apply Kd.R_drewN | apply Kd.R_drew)); exact rS HO144.out BK159.out⟩
 have n9_ : Aside0 (Kd.R (Kd.int .i64) 3 ((w108.setCell ⟨gb159, 0, none⟩ (.slice Ao109 t154.length co109)).setCell ⟨gb159, 1, none⟩ (.int .i64 t157)) w.heap.size (fun k_ => NS k_ Ao36 t101 co36 ∧ NS k_ Ao42 t109 co42 ∧ NS k_ Ao47 t114 co47 ∧ NS k_ Ao55 t120 co55 ∧ NS k_ Ao64 t126 co64 ∧ NS k_ Ao74 t132 co74 ∧ NB k_ (v139) ∧ NS k_ Ao88 t142 co88 ∧ NS k_ Ao109 t154 co109) (.slice Ao95 t148.length co95) t148) := ⟨by (with_reducible repeat (first | apply Kd.R_alloc | apply Kd.R_drewN | apply Kd.R_drew)); exact rS HO150.out BK159.out⟩
 have n10_ : Aside0 (Kd.R (Kd.int .i64) 3 ((w108.setCell ⟨gb159, 0, none⟩ (.slice Ao109 t154.length co109)).setCell ⟨gb159, 1, none⟩ (.int .i64 t157)) w.heap.size (fun k_ => NS k_ Ao36 t101 co36 ∧ NS k_ Ao42 t109 co42 ∧ NS k_ Ao47 t114 co47 ∧ NS k_ Ao55 t120 co55 ∧ NS k_ Ao64 t126 co64 ∧ NS k_ Ao74 t132 co74 ∧ NB k_ (v139) ∧ NS k_ Ao88 t142 co88 ∧ NS k_ Ao95 t148 co95) (.slice Ao109 t154.length co109) t154) := ⟨by (with_reducible repeat (first | apply Kd.R_alloc | apply Kd.R_drewN | apply Kd.R_drew)); exact rS HO156.out BK159.out⟩
 have n11_ : Aside0 (((w108.setCell ⟨gb159, 0, none⟩ (.slice Ao109 t154.length co109)).setCell ⟨gb159, 1, none⟩ (.int .i64 t157)).heap[gb105]? = some (.cells #[.slice Ao36 t101.length co36, .int .i64 t104] 27 (0, 0))) := ⟨bG BK105.out NB105_159.out⟩
 have n12_ : Aside0 (((w108.setCell ⟨gb159, 0, none⟩ (.slice Ao109 t154.length co109)).setCell ⟨gb159, 1, none⟩ (.int .i64 t157)).heap[gb113]? = some (.cells #[.slice Ao42 t109.length co42, .int .i64 t112] 27 (0, 0))) := ⟨bG BK113.out NB113_159.out⟩
 have n13_ : Aside0 (((w108.setCell ⟨gb159, 0, none⟩ (.slice Ao109 t154.length co109)).setCell ⟨gb159, 1, none⟩ (.int .i64 t157)).heap[gb119]? = some (.cells #[.slice Ao47 t114.length co47, .int .i64 t117] 27 (0, 0))) := ⟨bG BK119.out NB119_159.out⟩
 have n14_ : Aside0 (((w108.setCell ⟨gb159, 0, none⟩ (.slice Ao109 t154.length co109)).setCell ⟨gb159, 1, none⟩ (.int .i64 t157)).heap[gb125]? = some (.cells #[.slice Ao55 t120.length co55, .int .i64 t123] 27 (0, 0))) := ⟨bG BK125.out NB125_159.out⟩
 have n15_ : Aside0 (((w108.setCell ⟨gb159, 0, none⟩ (.slice Ao109 t154.length co109)).setCell ⟨gb159, 1, none⟩ (.int .i64 t157)).heap[gb131]? = some (.cells #[.slice Ao64 t126.length co64, .int .i64 t129] 27 (0, 0))) := ⟨bG BK131.out NB131_159.out⟩
 have n16_ : Aside0 (((w108.setCell ⟨gb159, 0, none⟩ (.slice Ao109 t154.length co109)).setCell ⟨gb159, 1, none⟩ (.int .i64 t157)).heap[gb137]? = some (.cells #[.slice Ao74 t132.length co74, .int .i64 t135] 27 (0, 0))) := ⟨bG BK137.out NB137_159.out⟩
 have n17_ : Aside0 (((w108.setCell ⟨gb159, 0, none⟩ (.slice Ao109 t154.length co109)).setCell ⟨gb159, 1, none⟩ (.int .i64 t157)).heap[gb147]? = some (.cells #[.slice Ao88 t142.length co88, .int .i64 t145] 27 (0, 0))) := ⟨bG BK147.out NB147_159.out⟩
 have n18_ : Aside0 (((w108.setCell ⟨gb159, 0, none⟩ (.slice Ao109 t154.length co109)).setCell ⟨gb159, 1, none⟩ (.int .i64 t157)).heap[gb153]? = some (.cells #[.slice Ao95 t148.length co95, .int .i64 t151] 27 (0, 0))) := ⟨bG BK153.out NB153_159.out⟩
 have n19_ : Aside0 (((w108.setCell ⟨gb159, 0, none⟩ (.slice Ao109 t154.length co109)).setCell ⟨gb159, 1, none⟩ (.int .i64 t157)).heap[gb159]? = some (.cells #[.slice Ao109 t154.length co109, .int .i64 t157] 27 (0, 0))) := ⟨by (with_reducible repeat (first | refine blk_drewN ?_ _ | refine blk_drew ?_ | refine blk_alloc ?_ _)); refine blk_put (cs := #[.slice Ao109 t154.length co109, .int .i64 0]) ?_ 1 _ rfl; (with_reducible repeat (first | refine blk_drewN ?_ _ | refine blk_drew ?_ | refine blk_alloc ?_ _)); refine blk_put (cs := #[.slice none 0 0, .int .i64 0]) ?_ 0 _ rfl; (with_reducible repeat (first | refine blk_drewN ?_ _ | refine blk_drew ?_ | refine blk_alloc ?_ _)); exact BK159.out⟩
 have n20_ : Aside0 (Below w.heap.size w ((w108.setCell ⟨gb159, 0, none⟩ (.slice Ao109 t154.length co109)).setCell ⟨gb159, 1, none⟩ (.int .i64 t157))) := ⟨bB HB.out⟩
 (try clear HO103); (try clear HO108); (try clear HO111); (try clear HO116); (try clear HO122); (try clear HO128); (try clear HO134); (try clear HO140); (try clear HO144); (try clear HO150); (try clear HO156); (try clear BK105); (try clear BK113); (try clear BK119); (try clear BK125); (try clear BK131); (try clear BK137); (try clear BK147); (try clear BK153); (try clear BK159); (try clear HB)
 generalize ((w108.setCell ⟨gb159, 0, none⟩ (.slice Ao109 t154.length co109)).setCell ⟨gb159, 1, none⟩ (.int .i64 t157)) = w119 at n0_ n1_ n2_ n3_ n4_ n5_ n6_ n7_ n8_ n9_ n10_ n11_ n12_ n13_ n14_ n15_ n16_ n17_ n18_ n19_ n20_ ⊢
 have HO103 := n0_; have HO108 := n1_; have HO111 := n2_; have HO116 := n3_; have HO122 := n4_; have HO128 := n5_; have HO134 := n6_; have HO140 := n7_; have HO144 := n8_; have HO150 := n9_; have HO156 := n10_; have BK105 := n11_; have BK113 := n12_; have BK119 := n13_; have BK125 := n14_; have BK131 := n15_; have BK137 := n16_; have BK147 := n17_; have BK153 := n18_; have BK159 := n19_; have HB := n20_; clear n0_ n1_ n2_ n3_ n4_ n5_ n6_ n7_ n8_ n9_ n10_ n11_ n12_ n13_ n14_ n15_ n16_ n17_ n18_ n19_ n20_; replace HO103 := am (Kd.R_drew HO103.out); replace HO108 := am (Kd.R_drew HO108.out); replace HO111 := am (Kd.R_drew HO111.out); replace HO116 := am (Kd.R_drew HO116.out); replace HO122 := am (Kd.R_drew HO122.out); replace HO128 := am (Kd.R_drew HO128.out); replace HO134 := am (Kd.R_drew HO134.out); replace HO140 := am (Kd.R_drew HO140.out); replace HO144 := am (Kd.R_drew HO144.out); replace HO150 := am (Kd.R_drew HO150.out); replace HO156 := am (Kd.R_drew HO156.out); replace BK105 := am (blk_drew BK105.out); replace BK113 := am (blk_drew BK113.out); replace BK119 := am (blk_drew BK119.out); replace BK125 := am (blk_drew BK125.out); replace BK131 := am (blk_drew BK131.out); replace BK137 := am (blk_drew BK137.out); replace BK147 := am (blk_drew BK147.out); replace BK153 := am (blk_drew BK153.out); replace BK159 := am (blk_drew BK159.out); replace HB := am (below_drew1 HB.out)
 refine start_ (n := 11) (S := fun w' => w'.cell? ⟨gb105, 0, none⟩ = some (.slice Ao36 t101.length co36) ∧ w'.cell? ⟨gb105, 1, none⟩ = some (.int .i64 t104) ∧ w'.cell? ⟨gb113, 0, none⟩ = some (.slice Ao42 t109.length co42) ∧ w'.cell? ⟨gb113, 1, none⟩ = some (.int .i64 t112)) (ds := []) q9_16 (by kernel_rfl) rfl rfl ⟨(blk_cell BK105.out 0).trans rfl, (blk_cell BK105.out 1).trans rfl, (blk_cell BK113.out 0).trans rfl, (blk_cell BK113.out 1).trans rfl⟩ (fun hHeld => ?_); refine with_tabW laws_FnFloatSums.tab12 laws_FnFloatSums.bits12 (fun HT_ HW_ => ?_)
 generalize w119.drew = w120 at HO103 HO108 HO111 HO116 HO122 HO128 HO134 HO140 HO144 HO150 HO156 BK105 BK113 BK119 BK125 BK131 BK137 BK147 BK153 BK159 HB hHeld ⊢
 refine take_ (i := 0) (N := some 71) (v := ?_) (a' := ?_) q9_17 rfl rfl (take_ofW HT_.out HW_.out (by kernel_rfl)) (fun _ _ _ h => h) (Or.inl ⟨by rfl, ?_⟩) hHeld ?_ ?_; rotate_left
 ·rintro w' ⟨s0, s1, s2, s3⟩
  go_simp; with_reducible rfl
 rotate_left
 ·simp only [Act.put, qa9, qb9, qc9, i64_w, i32_w]
  rfl
 refine take_ (i := 2) (N := some 73) (v := ?_) (a' := ?_) q9_18 rfl rfl (take_ofW HT_.out HW_.out (by kernel_rfl)) (fun _ _ _ h => h) (Or.inl ⟨by rfl, ?_⟩) hHeld ?_ ?_; rotate_left
 ·rintro w' ⟨s0, s1, s2, s3⟩
  go_simp; with_reducible rfl
 rotate_left
 ·simp only [Act.put, qa9, qb9, qc9, i64_w, i32_w]
  rfl
 refine join_ (σ := Value × Value × Value × Nat) 2 q9_19 (fun s_ => [(72, .agg #[s_.1, .int .i64 t163]), (74, .agg #[s_.2.1, .int .i64 t167]), (75, .tuple #[.agg #[s_.2.2.1, .int .i64 t171], .bool t172]), (19, .pointer (some ⟨s_.2.2.2, 0, none⟩)), (70, .tuple #[.agg #[s_.2.2.1, .int .i64 t171], .bool t172]), (76, .agg #[s_.2.2.1, .int .i64 t171]), (77, .bool t172)]) (fun s_ w' => (w'.cell? ⟨gb105, 0, none⟩ = some (.slice Ao36 t101.length co36) ∧ w'.cell? ⟨gb105, 1, none⟩ = some (.int .i64 t104) ∧ w'.cell? ⟨gb113, 0, none⟩ = some (.slice Ao42 t109.length co42) ∧ w'.cell? ⟨gb113, 1, none⟩ = some (.int .i64 t112)) ∧ (Kd.R (Kd.int .i64) 3 w' w.heap.size (fun k_ => NS k_ Ao42 t109 co42 ∧ NS k_ Ao47 t114 co47 ∧ NS k_ Ao55 t120 co55 ∧ NS k_ Ao64 t126 co64 ∧ NS k_ Ao74 t132 co74 ∧ NB k_ (v139) ∧ NS k_ Ao88 t142 co88 ∧ NS k_ Ao95 t148 co95 ∧ NS k_ Ao109 t154 co109 ∧ NB k_ (s_.1) ∧ NB k_ (s_.2.1) ∧ NB k_ (s_.2.2.1)) (.slice Ao36 t101.length co36) t101) ∧ (Kd.R (Kd.int .u8) 5 w' w.heap.size (fun _ => True) (.slice Ao39 t106.length co39) t106) ∧ (Kd.R (Kd.int .i64) 3 w' w.heap.size (fun k_ => NS k_ Ao36 t101 co36 ∧ NS k_ Ao47 t114 co47 ∧ NS k_ Ao55 t120 co55 ∧ NS k_ Ao64 t126 co64 ∧ NS k_ Ao74 t132 co74 ∧ NB k_ (v139) ∧ NS k_ Ao88 t142 co88 ∧ NS k_ Ao95 t148 co95 ∧ NS k_ Ao109 t154 co109 ∧ NB k_ (s_.1) ∧ NB k_ (s_.2.1) ∧ NB k_ (s_.2.2.1)) (.slice Ao42 t109.length co42) t109) ∧ (Kd.R (Kd.int .i64) 3 w' w.heap.size (fun k_ => NS k_ Ao36 t101 co36 ∧ NS k_ Ao42 t109 co42 ∧ NS k_ Ao55 t120 co55 ∧ NS k_ Ao64 t126 co64 ∧ NS k_ Ao74 t132 co74 ∧ NB k_ (v139) ∧ NS k_ Ao88 t142 co88 ∧ NS k_ Ao95 t148 co95 ∧ NS k_ Ao109 t154 co109 ∧ NB k_ (s_.1) ∧ NB k_ (s_.2.1) ∧ NB k_ (s_.2.2.1)) (.slice Ao47 t114.length co47) t114) ∧ (Kd.R (Kd.int .i64) 3 w' w.heap.size (fun k_ => NS k_ Ao36 t101 co36 ∧ NS k_ Ao42 t109 co42 ∧ NS k_ Ao47 t114 co47 ∧ NS k_ Ao64 t126 co64 ∧ NS k_ Ao74 t132 co74 ∧ NB k_ (v139) ∧ NS k_ Ao88 t142 co88 ∧ NS k_ Ao95 t148 co95 ∧ NS k_ Ao109 t154 co109 ∧ NB k_ (s_.1) ∧ NB k_ (s_.2.1) ∧ NB k_ (s_.2.2.1)) (.slice Ao55 t120.length co55) t120) ∧ (Kd.R (Kd.int .i64) 3 w' w.heap.size (fun k_ => NS k_ Ao36 t101 co36 ∧ NS k_ Ao42 t109 co42 ∧ NS k_ Ao47 t114 co47 ∧ NS k_ Ao55 t120 co55 ∧ NS k_ Ao74 t132 co74 ∧ NB k_ (v139) ∧ NS k_ Ao88 t142 co88 ∧ NS k_ Ao95 t148 co95 ∧ NS k_ Ao109 t154 co109 ∧ NB k_ (s_.1) ∧ NB k_ (s_.2.1) ∧ NB k_ (s_.2.2.1)) (.slice Ao64 t126.length co64) t126) ∧ (Kd.R (Kd.int .i64) 3 w' w.heap.size (fun k_ => NS k_ Ao36 t101 co36 ∧ NS k_ Ao42 t109 co42 ∧ NS k_ Ao47 t114 co47 ∧ NS k_ Ao55 t120 co55 ∧ NS k_ Ao64 t126 co64 ∧ NB k_ (v139) ∧ NS k_ Ao88 t142 co88 ∧ NS k_ Ao95 t148 co95 ∧ NS k_ Ao109 t154 co109 ∧ NB k_ (s_.1) ∧ NB k_ (s_.2.1) ∧ NB k_ (s_.2.2.1)) (.slice Ao74 t132.length co74) t132) ∧ (Kd.R (Kd.int .i64) 3 w' w.heap.size (fun k_ => NS k_ Ao36 t101 co36 ∧ NS k_ Ao42 t109 co42 ∧ NS k_ Ao47 t114 co47 ∧ NS k_ Ao55 t120 co55 ∧ NS k_ Ao64 t126 co64 ∧ NS k_ Ao74 t132 co74 ∧ NS k_ Ao88 t142 co88 ∧ NS k_ Ao95 t148 co95 ∧ NS k_ Ao109 t154 co109 ∧ NB k_ (s_.1) ∧ NB k_ (s_.2.1) ∧ NB k_ (s_.2.2.1)) v139 t138) ∧ (Kd.R (Kd.int .i64) 3 w' w.heap.size (fun k_ => NS k_ Ao36 t101 co36 ∧ NS k_ Ao42 t109 co42 ∧ NS k_ Ao47 t114 co47 ∧ NS k_ Ao55 t120 co55 ∧ NS k_ Ao64 t126 co64 ∧ NS k_ Ao74 t132 co74 ∧ NB k_ (v139) ∧ NS k_ Ao95 t148 co95 ∧ NS k_ Ao109 t154 co109 ∧ NB k_ (s_.1) ∧ NB k_ (s_.2.1) ∧ NB k_ (s_.2.2.1)) (.slice Ao88 t142.length co88) t142) ∧ (Kd.R (Kd.int .i64) 3 w' w.heap.size (fun k_ => NS k_ Ao36 t101 co36 ∧ NS k_ Ao42 t109 co42 ∧ NS k_ Ao47 t114 co47 ∧ NS k_ Ao55 t120 co55 ∧ NS k_ Ao64 t126 co64 ∧ NS k_ Ao74 t132 co74 ∧ NB k_ (v139) ∧ NS k_ Ao88 t142 co88 ∧ NS k_ Ao109 t154 co109 ∧ NB k_ (s_.1) ∧ NB k_ (s_.2.1) ∧ NB k_ (s_.2.2.1)) (.slice Ao95 t148.length co95) t148) ∧ (Kd.R (Kd.int .i64) 3 w' w.heap.size (fun k_ => NS k_ Ao36 t101 co36 ∧ NS k_ Ao42 t109 co42 ∧ NS k_ Ao47 t114 co47 ∧ NS k_ Ao55 t120 co55 ∧ NS k_ Ao64 t126 co64 ∧ NS k_ Ao74 t132 co74 ∧ NB k_ (v139) ∧ NS k_ Ao88 t142 co88 ∧ NS k_ Ao95 t148 co95 ∧ NB k_ (s_.1) ∧ NB k_ (s_.2.1) ∧ NB k_ (s_.2.2.1)) (.slice Ao109 t154.length co109) t154) ∧ (Kd.R (Kd.int .i64) 3 w' w.heap.size (fun k_ => NS k_ Ao36 t101 co36 ∧ NS k_ Ao42 t109 co42 ∧ NS k_ Ao47 t114 co47 ∧ NS k_ Ao55 t120 co55 ∧ NS k_ Ao64 t126 co64 ∧ NS k_ Ao74 t132 co74 ∧ NB k_ (v139) ∧ NS k_ Ao88 t142 co88 ∧ NS k_ Ao95 t148 co95 ∧ NS k_ Ao109 t154 co109 ∧ NB k_ (s_.2.1) ∧ NB k_ (s_.2.2.1)) s_.1 t160) ∧ (Kd.R (Kd.int .i64) 3 w' w.heap.size (fun k_ => NS k_ Ao36 t101 co36 ∧ NS k_ Ao42 t109 co42 ∧ NS k_ Ao47 t114 co47 ∧ NS k_ Ao55 t120 co55 ∧ NS k_ Ao64 t126 co64 ∧ NS k_ Ao74 t132 co74 ∧ NB k_ (v139) ∧ NS k_ Ao88 t142 co88 ∧ NS k_ Ao95 t148 co95 ∧ NS k_ Ao109 t154 co109 ∧ NB k_ (s_.1) ∧ NB k_ (s_.2.2.1)) s_.2.1 t164) ∧ (Kd.R (Kd.int .i64) 3 w' w.heap.size (fun k_ => NS k_ Ao36 t101 co36 ∧ NS k_ Ao42 t109 co42 ∧ NS k_ Ao47 t114 co47 ∧ NS k_ Ao55 t120 co55 ∧ NS k_ Ao64 t126 co64 ∧ NS k_ Ao74 t132 co74 ∧ NB k_ (v139) ∧ NS k_ Ao88 t142 co88 ∧ NS k_ Ao95 t148 co95 ∧ NS k_ Ao109 t154 co109 ∧ NB k_ (s_.1) ∧ NB k_ (s_.2.1)) s_.2.2.1 t168) ∧ (w'.heap[gb105]? = some (.cells #[.slice Ao36 t101.length co36, .int .i64 t104] 27 (0, 0))) ∧ (w'.heap[gb113]? = some (.cells #[.slice Ao42 t109.length co42, .int .i64 t112] 27 (0, 0))) ∧ (w'.heap[gb119]? = some (.cells #[.slice Ao47 t114.length co47, .int .i64 t117] 27 (0, 0))) ∧ (w'.heap[gb125]? = some (.cells #[.slice Ao55 t120.length co55, .int .i64 t123] 27 (0, 0))) ∧ (w'.heap[gb131]? = some (.cells #[.slice Ao64 t126.length co64, .int .i64 t129] 27 (0, 0))) ∧ (w'.heap[gb137]? = some (.cells #[.slice Ao74 t132.length co74, .int .i64 t135] 27 (0, 0))) ∧ (w'.heap[gb147]? = some (.cells #[.slice Ao88 t142.length co88, .int .i64 t145] 27 (0, 0))) ∧ (w'.heap[gb153]? = some (.cells #[.slice Ao95 t148.length co95, .int .i64 t151] 27 (0, 0))) ∧ (w'.heap[gb159]? = some (.cells #[.slice Ao109 t154.length co109, .int .i64 t157] 27 (0, 0))) ∧ (w'.heap[s_.2.2.2]? = some (.cells #[.slice none 0 0, .int .i64 0] 27 (0, 0))) ∧ (w.heap.size ≤ s_.2.2.2) ∧ (w.heap.size ≤ s_.2.2.2) ∧ (gb105 ≠ s_.2.2.2) ∧ (s_.2.2.2 ≠ gb105) ∧ (gb113 ≠ s_.2.2.2) ∧ (s_.2.2.2 ≠ gb113) ∧ (gb119 ≠ s_.2.2.2) ∧ (s_.2.2.2 ≠ gb119) ∧ (gb125 ≠ s_.2.2.2) ∧ (s_.2.2.2 ≠ gb125) ∧ (gb131 ≠ s_.2.2.2) ∧ (s_.2.2.2 ≠ gb131) ∧ (gb137 ≠ s_.2.2.2) ∧ (s_.2.2.2 ≠ gb137) ∧ (gb147 ≠ s_.2.2.2) ∧ (s_.2.2.2 ≠ gb147) ∧ (gb153 ≠ s_.2.2.2) ∧ (s_.2.2.2 ≠ gb153) ∧ (gb159 ≠ s_.2.2.2) ∧ (s_.2.2.2 ≠ gb159) ∧ (Below w.heap.size w w')) ?_ ?_; rotate_left
 ·intro hCont
  refine two_ (i := 1) (j := 8) (Ni := some 72) (Nj := some 19) q9_20 q9_21 rfl rfl rfl rfl (two_of HT_.out (by kernel_rfl)) (by decide) (by decide) (fun K hK => ?_) (fun K hK => ?_)
  ·skip
   refine goes_ Try.func31 (by kernel_rfl) rfl #[.agg #[.slice Ao36 t101.length co36, .int .i64 t104]] (by rfl) rfl rfl bE ?_
   with_reducible refine (impl_NegateFloat.calls k _ _ t101 t104 t160 t163 _ ?side1 ?side2 A14.out).mono ?_
   (case side1 => exact bD ((Kd.R_reads' HO103.out).2.2))
   (case side2 => exact (Kd.R_reads' HO103.out).2.1)
   rintro e w121 ⟨v161, rfl, ho0, hb⟩
   refine ⟨_, rfl, ?_⟩
   have HO162 := am (Kd.R_lower (Kd.R_new' (Kd.R_new' (Kd.R_new' (Kd.R_new' (Kd.R_new' (Kd.R_new' (Kd.R_new' (Kd.R_new' (Kd.R_new' (Kd.R_new' ho0 (Kd.R_lt (bC HO103.out))) (Kd.R_lt (bC HO111.out))) (Kd.R_lt (bC HO116.out))) (Kd.R_lt (bC HO122.out))) (Kd.R_lt (bC HO128.out))) (Kd.R_lt (bC HO134.out))) (Kd.R_lt (bC HO140.out))) (Kd.R_lt (bC HO144.out))) (Kd.R_lt (bC HO150.out))) (Kd.R_lt (bC HO156.out))) (below_size (bB HB.out))); replace HO103 := am (Kd.R_elder' (bC HO103.out) (Kd.R_base ho0) hb); replace HO108 := am (Kd.R_below (bC HO108.out) hb); replace HO111 := am (Kd.R_elder' (bC HO111.out) (Kd.R_base ho0) hb); replace HO116 := am (Kd.R_elder' (bC HO116.out) (Kd.R_base ho0) hb); replace HO122 := am (Kd.R_elder' (bC HO122.out) (Kd.R_base ho0) hb); replace HO128 := am (Kd.R_elder' (bC HO128.out) (Kd.R_base ho0) hb); replace HO134 := am (Kd.R_elder' (bC HO134.out) (Kd.R_base ho0) hb); replace HO140 := am (Kd.R_elder' (bC HO140.out) (Kd.R_base ho0) hb); replace HO144 := am (Kd.R_elder' (bC HO144.out) (Kd.R_base ho0) hb); replace HO150 := am (Kd.R_elder' (bC HO150.out) (Kd.R_base ho0) hb); replace HO156 := am (Kd.R_elder' (bC HO156.out) (Kd.R_base ho0) hb); replace BK105 := am (blk_below (bA BK105.out) hb); replace BK113 := am (blk_below (bA BK113.out) hb); replace BK119 := am (blk_below (bA BK119.out) hb); replace BK125 := am (blk_below (bA BK125.out) hb); replace BK131 := am (blk_below (bA BK131.out) hb); replace BK137 := am (blk_below (bA BK137.out) hb); replace BK147 := am (blk_below (bA BK147.out) hb); replace BK153 := am (blk_below (bA BK153.out) hb); replace BK159 := am (blk_below (bA BK159.out) hb); replace HB := am (below_step (bB HB.out) hb); (try clear hb); (try clear hb2); (try clear hk); (try clear hi); (try clear ho0); clear A14
   refine hK.out _ _ ⟨(blk_cell BK105.out 0).trans rfl, (blk_cell BK105.out 1).trans rfl, (blk_cell BK113.out 0).trans rfl, (blk_cell BK113.out 1).trans rfl⟩ (fun hHeld => ?_)
   clear hK K
   refine norm_ (a' := ?_) ?_ ?_; rotate_left
   ·show Act.put _ (some 72) _ = _
    simp only [Act.put, qa9, qb9, qc9, i64_w, i32_w]
    rfl
   refine two_ (i := 3) (j := 8) (Ni := some 74) (Nj := some 19) q9_22 q9_23 rfl rfl rfl rfl (two_of HT_.out (by kernel_rfl)) (by decide) (by decide) (fun K hK => ?_) (fun K hK => ?_)
   ·skip
    refine goes_ Try.func31 (by kernel_rfl) rfl #[.agg #[.slice Ao42 t109.length co42, .int .i64 t112]] (by rfl) rfl rfl bE ?_
    with_reducible refine (impl_NegateFloat.calls k _ _ t109 t112 t164 t167 _ ?side1 ?side2 A15.out).mono ?_
    (case side1 => exact bD ((Kd.R_reads' HO111.out).2.2))
    (case side2 => exact (Kd.R_reads' HO111.out).2.1)
    rintro e w122 ⟨v165, rfl, ho0, hb⟩
    refine ⟨_, rfl, ?_⟩
    have HO166 := am (Kd.R_lower (Kd.R_new' (Kd.R_new' (Kd.R_new' (Kd.R_new' (Kd.R_new' (Kd.R_new' (Kd.R_new' (Kd.R_new' (Kd.R_new' (Kd.R_new' (Kd.R_new' ho0 (Kd.R_lt (bC HO103.out))) (Kd.R_lt (bC HO111.out))) (Kd.R_lt (bC HO116.out))) (Kd.R_lt (bC HO122.out))) (Kd.R_lt (bC HO128.out))) (Kd.R_lt (bC HO134.out))) (Kd.R_lt (bC HO140.out))) (Kd.R_lt (bC HO144.out))) (Kd.R_lt (bC HO150.out))) (Kd.R_lt (bC HO156.out))) (Kd.R_lt (bC HO162.out))) (below_size (bB HB.out))); replace HO103 := am (Kd.R_elder' (bC HO103.out) (Kd.R_base ho0) hb); replace HO108 := am (Kd.R_below (bC HO108.out) hb); replace HO111 := am (Kd.R_elder' (bC HO111.out) (Kd.R_base ho0) hb); replace HO116 := am (Kd.R_elder' (bC HO116.out) (Kd.R_base ho0) hb); replace HO122 := am (Kd.R_elder' (bC HO122.out) (Kd.R_base ho0) hb); replace HO128 := am (Kd.R_elder' (bC HO128.out) (Kd.R_base ho0) hb); replace HO134 := am (Kd.R_elder' (bC HO134.out) (Kd.R_base ho0) hb); replace HO140 := am (Kd.R_elder' (bC HO140.out) (Kd.R_base ho0) hb); replace HO144 := am (Kd.R_elder' (bC HO144.out) (Kd.R_base ho0) hb); replace HO150 := am (Kd.R_elder' (bC HO150.out) (Kd.R_base ho0) hb); replace HO156 := am (Kd.R_elder' (bC HO156.out) (Kd.R_base ho0) hb); replace HO162 := am (Kd.R_elder' (bC HO162.out) (Kd.R_base ho0) hb); replace BK105 := am (blk_below (bA BK105.out) hb); replace BK113 := am (blk_below (bA BK113.out) hb); replace BK119 := am (blk_below (bA BK119.out) hb); replace BK125 := am (blk_below (bA BK125.out) hb); replace BK131 := am (blk_below (bA BK131.out) hb); replace BK137 := am (blk_below (bA BK137.out) hb); replace BK147 := am (blk_below (bA BK147.out) hb); replace BK153 := am (blk_below (bA BK153.out) hb); replace BK159 := am (blk_below (bA BK159.out) hb); replace HB := am (below_step (bB HB.out) hb); (try clear hb); (try clear hb2); (try clear hk); (try clear hi); (try clear ho0); clear A15
    obtain ⟨Ao123, co123, eo123⟩ := Kd.R_slice HO162.out
    (first | subst eo123 | (injection eo123 with f1_ f2_ f3_; have f4_ := f1_.symm; have f5_ := f3_.symm; clear f1_ f2_ f3_; subst f4_; subst f5_))
    obtain ⟨Ao124, co124, eo124⟩ := Kd.R_slice HO166.out
    (first | subst eo124 | (injection eo124 with f1_ f2_ f3_; have f4_ := f1_.symm; have f5_ := f3_.symm; clear f1_ f2_ f3_; subst f4_; subst f5_))
    refine hK.out _ _ ⟨(blk_cell BK105.out 0).trans rfl, (blk_cell BK105.out 1).trans rfl, (blk_cell BK113.out 0).trans rfl, (blk_cell BK113.out 1).trans rfl⟩ (fun hHeld => ?_)
    clear hK K
    refine norm_ (a' := ?_) ?_ ?_; rotate_left
    ·show Act.put _ (some 74) _ = _
     simp only [Act.put, qa9, qb9, qc9, i64_w, i32_w]
     rfl
    refine two_ (i := 4) (j := 8) (Ni := some 75) (Nj := some 19) q9_24 q9_25 rfl rfl rfl rfl (two_of HT_.out (by kernel_rfl)) (by decide) (by decide) (fun K hK => ?_) (fun K hK => ?_)
    ·skip
     refine goes_ Try.func22 (by kernel_rfl) rfl #[.agg #[.slice Ao123 t160.length co123, .int .i64 t163], .agg #[.slice Ao124 t164.length co124, .int .i64 t167]] (by rfl) rfl rfl bE ?_
     with_reducible refine (impl_AddFloats.calls k _ _ t160 t163 _ _ t164 t167 t168 t171 t172 _ ?side1 ?side2 ?side3 ?side4 A16.out).mono ?_
     (case side1 => exact bD ((Kd.R_reads' HO162.out).2.2))
     (case side2 => exact (Kd.R_reads' HO162.out).2.1)
     (case side3 => exact bD ((Kd.R_reads' HO166.out).2.2))
     (case side4 => exact (Kd.R_reads' HO166.out).2.1)
     rintro e w125 ⟨v169, rfl, ho0, hb⟩
     refine ⟨_, rfl, ?_⟩
     have HO170 := am (Kd.R_lower (Kd.R_new' (Kd.R_new' (Kd.R_new' (Kd.R_new' (Kd.R_new' (Kd.R_new' (Kd.R_new' (Kd.R_new' (Kd.R_new' (Kd.R_new' (Kd.R_new' (Kd.R_new' ho0 (Kd.R_lt (bC HO103.out))) (Kd.R_lt (bC HO111.out))) (Kd.R_lt (bC HO116.out))) (Kd.R_lt (bC HO122.out))) (Kd.R_lt (bC HO128.out))) (Kd.R_lt (bC HO134.out))) (Kd.R_lt (bC HO140.out))) (Kd.R_lt (bC HO144.out))) (Kd.R_lt (bC HO150.out))) (Kd.R_lt (bC HO156.out))) (Kd.R_lt (bC HO162.out))) (Kd.R_lt (bC HO166.out))) (below_size (bB HB.out))); replace HO103 := am (Kd.R_elder' (bC HO103.out) (Kd.R_base ho0) hb); replace HO108 := am (Kd.R_below (bC HO108.out) hb); replace HO111 := am (Kd.R_elder' (bC HO111.out) (Kd.R_base ho0) hb); replace HO116 := am (Kd.R_elder' (bC HO116.out) (Kd.R_base ho0) hb); replace HO122 := am (Kd.R_elder' (bC HO122.out) (Kd.R_base ho0) hb); replace HO128 := am (Kd.R_elder' (bC HO128.out) (Kd.R_base ho0) hb); replace HO134 := am (Kd.R_elder' (bC HO134.out) (Kd.R_base ho0) hb); replace HO140 := am (Kd.R_elder' (bC HO140.out) (Kd.R_base ho0) hb); replace HO144 := am (Kd.R_elder' (bC HO144.out) (Kd.R_base ho0) hb); replace HO150 := am (Kd.R_elder' (bC HO150.out) (Kd.R_base ho0) hb); replace HO156 := am (Kd.R_elder' (bC HO156.out) (Kd.R_base ho0) hb); replace HO162 := am (Kd.R_elder' (bC HO162.out) (Kd.R_base ho0) hb); replace HO166 := am (Kd.R_elder' (bC HO166.out) (Kd.R_base ho0) hb); replace BK105 := am (blk_below (bA BK105.out) hb); replace BK113 := am (blk_below (bA BK113.out) hb); replace BK119 := am (blk_below (bA BK119.out) hb); replace BK125 := am (blk_below (bA BK125.out) hb); replace BK131 := am (blk_below (bA BK131.out) hb); replace BK137 := am (blk_below (bA BK137.out) hb); replace BK147 := am (blk_below (bA BK147.out) hb); replace BK153 := am (blk_below (bA BK153.out) hb); replace BK159 := am (blk_below (bA BK159.out) hb); replace HB := am (below_step (bB HB.out) hb); (try clear hb); (try clear hb2); (try clear hk); (try clear hi); (try clear ho0); clear A16
     refine hK.out _ _ ⟨(blk_cell BK105.out 0).trans rfl, (blk_cell BK105.out 1).trans rfl, (blk_cell BK113.out 0).trans rfl, (blk_cell BK113.out 1).trans rfl⟩ (fun hHeld => ?_)
     clear hK K
     refine norm_ (a' := ?_) ?_ ?_; rotate_left
     ·show Act.put _ (some 75) _ = _
      simp only [Act.put, qa9, qb9, qc9, i64_w, i32_w]
      rfl
     refine pure_ (i := 5) (N := some 70) (v := ?_) (a' := ?_) q9_26 rfl rfl (any_of HT_.out (by kernel_rfl)) (fun _ _ _ h => h) (Or.inl ⟨by rfl, ?_⟩) ?_ ?_; rotate_left
     ·intro w'
      go_simp; with_reducible rfl
     rotate_left
     ·simp only [Act.put, qa9, qb9, qc9, i64_w, i32_w]
      rfl
     refine pure_ (i := 6) (N := some 76) (v := ?_) (a' := ?_) q9_27 rfl rfl (any_of HT_.out (by kernel_rfl)) (fun _ _ _ h => h) (Or.inl ⟨by rfl, ?_⟩) ?_ ?_; rotate_left
     ·intro w'
      go_simp; with_reducible rfl
     rotate_left
     ·simp only [Act.put, qa9, qb9, qc9, i64_w, i32_w]
      rfl
     refine pure_ (i := 7) (N := some 77) (v := ?_) (a' := ?_) q9_28 rfl rfl (any_of HT_.out (by kernel_rfl)) (fun _ _ _ h => h) (Or.inl ⟨by rfl, ?_⟩) ?_ ?_; rotate_left
     ·intro w'
      go_simp; with_reducible rfl
     rotate_left
     ·simp only [Act.put, qa9, qb9, qc9, i64_w, i32_w]
      rfl
     refine one_ (i := 8) (N := some 19) q9_19 rfl rfl (one_of HT_.out (by kernel_rfl)) (by decide) (fun K hK => ?_)
     refine box_step ?hg (N := 19) ?hd (cs := #[.slice none 0 0, .int .i64 0]) (t := 27) ?hr ?_; (case hd => rfl); (case hg => rfl); (case hr => first | (go_simp; done) | (go_simp; rfl))
     intro gb173 hg w126 hbox hb
     have n0_ := am (Kd.R_below (bC HO103.out) hb); have n1_ := am (Kd.R_below (bC HO108.out) hb); have n2_ := am (Kd.R_below (bC HO111.out) hb); have n3_ := am (Kd.R_below (bC HO116.out) hb); have n4_ := am (Kd.R_below (bC HO122.out) hb); have n5_ := am (Kd.R_below (bC HO128.out) hb); have n6_ := am (Kd.R_below (bC HO134.out) hb); have n7_ := am (Kd.R_below (bC HO140.out) hb); have n8_ := am (Kd.R_below (bC HO144.out) hb); have n9_ := am (Kd.R_below (bC HO150.out) hb); have n10_ := am (Kd.R_below (bC HO156.out) hb); have n11_ := am (Kd.R_below (bC HO162.out) hb); have n12_ := am (Kd.R_below (bC HO166.out) hb); have n13_ := am (Kd.R_below (bC HO170.out) hb); have n14_ := am (blk_below (bA BK105.out) hb); have n15_ := am (blk_below (bA BK113.out) hb); have n16_ := am (blk_below (bA BK119.out) hb); have n17_ := am (blk_below (bA BK125.out) hb); have n18_ := am (blk_below (bA BK131.out) hb); have n19_ := am (blk_below (bA BK137.out) hb); have n20_ := am (blk_below (bA BK147.out) hb); have n21_ := am (blk_below (bA BK153.out) hb); have n22_ := am (blk_below (bA BK159.out) hb); have n23_ := am (below_step (bB HB.out) hb); have n24_ := am (hbox); have n25_ := am ((by rw [hg]; exact (below_size (bB HB.out)) : w.heap.size ≤ gb173)); have n26_ := am ((by rw [hg]; exact (below_size (bB HB.out)) : w.heap.size ≤ gb173)); have n27_ := am ((by rw [hg]; exact Nat.ne_of_lt (blk_lt (g := gb105) (o := .cells #[.slice Ao36 t101.length co36, .int .i64 t104] 27 (0, 0)) (bA BK105.out)) : gb105 ≠ gb173)); have n28_ := am ((by rw [hg]; exact Nat.ne_of_gt (blk_lt (g := gb105) (o := .cells #[.slice Ao36 t101.length co36, .int .i64 t104] 27 (0, 0)) (bA BK105.out)) : gb173 ≠ gb105)); have n29_ := am ((by rw [hg]; exact Nat.ne_of_lt (blk_lt (g := gb113) (o := .cells #[.slice Ao42 t109.length co42, .int .i64 t112] 27 (0, 0)) (bA BK113.out)) : gb113 ≠ gb173)); have n30_ := am ((by rw [hg]; exact Nat.ne_of_gt (blk_lt (g := gb113) (o := .cells #[.slice Ao42 t109.length co42, .int .i64 t112] 27 (0, 0)) (bA BK113.out)) : gb173 ≠ gb113)); have n31_ := am ((by rw [hg]; exact Nat.ne_of_lt (blk_lt (g := gb119) (o := .cells #[.slice Ao47 t114.length co47, .int .i64 t117] 27 (0, 0)) (bA BK119.out)) : gb119 ≠ gb173)); have n32_ := am ((by rw [hg]; exact Nat.ne_of_gt (blk_lt (g := gb119) (o := .cells #[.slice Ao47 t114.length co47, .int .i64 t117] 27 (0, 0)) (bA BK119.out)) : gb173 ≠ gb119)); have n33_ := am ((by rw [hg]; exact Nat.ne_of_lt (blk_lt (g := gb125) (o := .cells #[.slice Ao55 t120.length co55, .int .i64 t123] 27 (0, 0)) (bA BK125.out)) : gb125 ≠ gb173)); have n34_ := am ((by rw [hg]; exact Nat.ne_of_gt (blk_lt (g := gb125) (o := .cells #[.slice Ao55 t120.length co55, .int .i64 t123] 27 (0, 0)) (bA BK125.out)) : gb173 ≠ gb125)); have n35_ := am ((by rw [hg]; exact Nat.ne_of_lt (blk_lt (g := gb131) (o := .cells #[.slice Ao64 t126.length co64, .int .i64 t129] 27 (0, 0)) (bA BK131.out)) : gb131 ≠ gb173)); have n36_ := am ((by rw [hg]; exact Nat.ne_of_gt (blk_lt (g := gb131) (o := .cells #[.slice Ao64 t126.length co64, .int .i64 t129] 27 (0, 0)) (bA BK131.out)) : gb173 ≠ gb131))
     have n37_ := am ((by rw [hg]; exact Nat.ne_of_lt (blk_lt (g := gb137) (o := .cells #[.slice Ao74 t132.length co74, .int .i64 t135] 27 (0, 0)) (bA BK137.out)) : gb137 ≠ gb173)); have n38_ := am ((by rw [hg]; exact Nat.ne_of_gt (blk_lt (g := gb137) (o := .cells #[.slice Ao74 t132.length co74, .int .i64 t135] 27 (0, 0)) (bA BK137.out)) : gb173 ≠ gb137)); have n39_ := am ((by rw [hg]; exact Nat.ne_of_lt (blk_lt (g := gb147) (o := .cells #[.slice Ao88 t142.length co88, .int .i64 t145] 27 (0, 0)) (bA BK147.out)) : gb147 ≠ gb173)); have n40_ := am ((by rw [hg]; exact Nat.ne_of_gt (blk_lt (g := gb147) (o := .cells #[.slice Ao88 t142.length co88, .int .i64 t145] 27 (0, 0)) (bA BK147.out)) : gb173 ≠ gb147)); have n41_ := am ((by rw [hg]; exact Nat.ne_of_lt (blk_lt (g := gb153) (o := .cells #[.slice Ao95 t148.length co95, .int .i64 t151] 27 (0, 0)) (bA BK153.out)) : gb153 ≠ gb173)); have n42_ := am ((by rw [hg]; exact Nat.ne_of_gt (blk_lt (g := gb153) (o := .cells #[.slice Ao95 t148.length co95, .int .i64 t151] 27 (0, 0)) (bA BK153.out)) : gb173 ≠ gb153)); have n43_ := am ((by rw [hg]; exact Nat.ne_of_lt (blk_lt (g := gb159) (o := .cells #[.slice Ao109 t154.length co109, .int .i64 t157] 27 (0, 0)) (bA BK159.out)) : gb159 ≠ gb173)); have n44_ := am ((by rw [hg]; exact Nat.ne_of_gt (blk_lt (g := gb159) (o := .cells #[.slice Ao109 t154.length co109, .int .i64 t157] 27 (0, 0)) (bA BK159.out)) : gb173 ≠ gb159)); clear HO103 HO108; clear HO111 HO116; clear HO122 HO128; clear HO134 HO140; clear HO144 HO150; clear HO156 HO162; clear HO166 HO170; clear BK105 BK113; clear BK119 BK125; clear BK131 BK137; clear BK147 BK153; clear BK159 HB; have HO103 := n0_; have HO108 := n1_; have HO111 := n2_; have HO116 := n3_; have HO122 := n4_; have HO128 := n5_; have HO134 := n6_; have HO140 := n7_; have HO144 := n8_; have HO150 := n9_; have HO156 := n10_; have HO162 := n11_; have HO166 := n12_; have HO170 := n13_; have BK105 := n14_; have BK113 := n15_; have BK119 := n16_; have BK125 := n17_; have BK131 := n18_; have BK137 := n19_; have BK147 := n20_; have BK153 := n21_; have BK159 := n22_; have HB := n23_; have BK173 := n24_; have GW173 := n25_; have GE173 := n26_; have NB105_173 := n27_; have NB173_105 := n28_; have NB113_173 := n29_; have NB173_113 := n30_; have NB119_173 := n31_; have NB173_119 := n32_; have NB125_173 := n33_; have NB173_125 := n34_; have NB131_173 := n35_; have NB173_131 := n36_; have NB137_173 := n37_; have NB173_137 := n38_; have NB147_173 := n39_; have NB173_147 := n40_; have NB153_173 := n41_; have NB173_153 := n42_; have NB159_173 := n43_; have NB173_159 := n44_; clear n0_ n1_ n2_ n3_ n4_ n5_ n6_ n7_ n8_ n9_ n10_ n11_ n12_ n13_ n14_ n15_ n16_ n17_ n18_ n19_ n20_ n21_ n22_ n23_ n24_ n25_ n26_ n27_ n28_ n29_ n30_ n31_ n32_ n33_ n34_ n35_ n36_ n37_ n38_ n39_ n40_ n41_ n42_ n43_ n44_; clear hb hbox hg
     refine hK.out _ _ ⟨(blk_cell BK105.out 0).trans rfl, (blk_cell BK105.out 1).trans rfl, (blk_cell BK113.out 0).trans rfl, (blk_cell BK113.out 1).trans rfl⟩ (fun hHeld => ?_)
     clear hK K
     refine norm_ (a' := ?_) ?_ ?_; rotate_left
     ·show Act.put _ (some 19) _ = _
      simp only [Act.put, qa9, qb9, qc9, i64_w, i32_w]
      rfl
     exact norm_ (by simp only [putAll, Act.put, qa9, qb9, qc9]) (hCont (.slice Ao123 t160.length co123, .slice Ao124 t164.length co124, v169, gb173) _ ⟨hHeld, (bC (rM HO103.out)), (bC HO108.out), (bC (rM HO111.out)), (bC (rM HO116.out)), (bC (rM HO122.out)), (bC (rM HO128.out)), (bC (rM HO134.out)), (bC (rM HO140.out)), (bC (rM HO144.out)), (bC (rM HO150.out)), (bC (rM HO156.out)), (bC (rM HO162.out)), (bC (rM HO166.out)), (bC (rM HO170.out)), (bA BK105.out), (bA BK113.out), (bA BK119.out), (bA BK125.out), (bA BK131.out), (bA BK137.out), (bA BK147.out), (bA BK153.out), (bA BK159.out), (bA BK173.out), GW173.out, GE173.out, NB105_173.out, NB173_105.out, NB113_173.out, NB173_113.out, NB119_173.out, NB173_119.out, NB125_173.out, NB173_125.out, NB131_173.out, NB173_131.out, NB137_173.out, NB173_137.out, NB147_173.out, NB173_147.out, NB153_173.out, NB173_153.out, NB159_173.out, NB173_159.out, (bB HB.out)⟩)
    ·skip
     refine box_step ?hg (N := 19) ?hd (cs := #[.slice none 0 0, .int .i64 0]) (t := 27) ?hr ?_; (case hd => rfl); (case hg => rfl); (case hr => first | (go_simp; done) | (go_simp; rfl))
     intro gb173 hg w123 hbox hb
     have n0_ := am (Kd.R_below (bC HO103.out) hb); have n1_ := am (Kd.R_below (bC HO108.out) hb); have n2_ := am (Kd.R_below (bC HO111.out) hb); have n3_ := am (Kd.R_below (bC HO116.out) hb); have n4_ := am (Kd.R_below (bC HO122.out) hb); have n5_ := am (Kd.R_below (bC HO128.out) hb); have n6_ := am (Kd.R_below (bC HO134.out) hb); have n7_ := am (Kd.R_below (bC HO140.out) hb); have n8_ := am (Kd.R_below (bC HO144.out) hb); have n9_ := am (Kd.R_below (bC HO150.out) hb); have n10_ := am (Kd.R_below (bC HO156.out) hb); have n11_ := am (Kd.R_below (bC HO162.out) hb); have n12_ := am (Kd.R_below (bC HO166.out) hb); have n13_ := am (blk_below (bA BK105.out) hb); have n14_ := am (blk_below (bA BK113.out) hb); have n15_ := am (blk_below (bA BK119.out) hb); have n16_ := am (blk_below (bA BK125.out) hb); have n17_ := am (blk_below (bA BK131.out) hb); have n18_ := am (blk_below (bA BK137.out) hb); have n19_ := am (blk_below (bA BK147.out) hb); have n20_ := am (blk_below (bA BK153.out) hb); have n21_ := am (blk_below (bA BK159.out) hb); have n22_ := am (below_step (bB HB.out) hb); have n23_ := am (hbox); have n24_ := am ((by rw [hg]; exact (below_size (bB HB.out)) : w.heap.size ≤ gb173)); have n25_ := am ((by rw [hg]; exact (below_size (bB HB.out)) : w.heap.size ≤ gb173)); have n26_ := am ((by rw [hg]; exact Nat.ne_of_lt (blk_lt (g := gb105) (o := .cells #[.slice Ao36 t101.length co36, .int .i64 t104] 27 (0, 0)) (bA BK105.out)) : gb105 ≠ gb173)); have n27_ := am ((by rw [hg]; exact Nat.ne_of_gt (blk_lt (g := gb105) (o := .cells #[.slice Ao36 t101.length co36, .int .i64 t104] 27 (0, 0)) (bA BK105.out)) : gb173 ≠ gb105)); have n28_ := am ((by rw [hg]; exact Nat.ne_of_lt (blk_lt (g := gb113) (o := .cells #[.slice Ao42 t109.length co42, .int .i64 t112] 27 (0, 0)) (bA BK113.out)) : gb113 ≠ gb173)); have n29_ := am ((by rw [hg]; exact Nat.ne_of_gt (blk_lt (g := gb113) (o := .cells #[.slice Ao42 t109.length co42, .int .i64 t112] 27 (0, 0)) (bA BK113.out)) : gb173 ≠ gb113)); have n30_ := am ((by rw [hg]; exact Nat.ne_of_lt (blk_lt (g := gb119) (o := .cells #[.slice Ao47 t114.length co47, .int .i64 t117] 27 (0, 0)) (bA BK119.out)) : gb119 ≠ gb173)); have n31_ := am ((by rw [hg]; exact Nat.ne_of_gt (blk_lt (g := gb119) (o := .cells #[.slice Ao47 t114.length co47, .int .i64 t117] 27 (0, 0)) (bA BK119.out)) : gb173 ≠ gb119)); have n32_ := am ((by rw [hg]; exact Nat.ne_of_lt (blk_lt (g := gb125) (o := .cells #[.slice Ao55 t120.length co55, .int .i64 t123] 27 (0, 0)) (bA BK125.out)) : gb125 ≠ gb173)); have n33_ := am ((by rw [hg]; exact Nat.ne_of_gt (blk_lt (g := gb125) (o := .cells #[.slice Ao55 t120.length co55, .int .i64 t123] 27 (0, 0)) (bA BK125.out)) : gb173 ≠ gb125)); have n34_ := am ((by rw [hg]; exact Nat.ne_of_lt (blk_lt (g := gb131) (o := .cells #[.slice Ao64 t126.length co64, .int .i64 t129] 27 (0, 0)) (bA BK131.out)) : gb131 ≠ gb173)); have n35_ := am ((by rw [hg]; exact Nat.ne_of_gt (blk_lt (g := gb131) (o := .cells #[.slice Ao64 t126.length co64, .int .i64 t129] 27 (0, 0)) (bA BK131.out)) : gb173 ≠ gb131))
     have n36_ := am ((by rw [hg]; exact Nat.ne_of_lt (blk_lt (g := gb137) (o := .cells #[.slice Ao74 t132.length co74, .int .i64 t135] 27 (0, 0)) (bA BK137.out)) : gb137 ≠ gb173)); have n37_ := am ((by rw [hg]; exact Nat.ne_of_gt (blk_lt (g := gb137) (o := .cells #[.slice Ao74 t132.length co74, .int .i64 t135] 27 (0, 0)) (bA BK137.out)) : gb173 ≠ gb137)); have n38_ := am ((by rw [hg]; exact Nat.ne_of_lt (blk_lt (g := gb147) (o := .cells #[.slice Ao88 t142.length co88, .int .i64 t145] 27 (0, 0)) (bA BK147.out)) : gb147 ≠ gb173)); have n39_ := am ((by rw [hg]; exact Nat.ne_of_gt (blk_lt (g := gb147) (o := .cells #[.slice Ao88 t142.length co88, .int .i64 t145] 27 (0, 0)) (bA BK147.out)) : gb173 ≠ gb147)); have n40_ := am ((by rw [hg]; exact Nat.ne_of_lt (blk_lt (g := gb153) (o := .cells #[.slice Ao95 t148.length co95, .int .i64 t151] 27 (0, 0)) (bA BK153.out)) : gb153 ≠ gb173)); have n41_ := am ((by rw [hg]; exact Nat.ne_of_gt (blk_lt (g := gb153) (o := .cells #[.slice Ao95 t148.length co95, .int .i64 t151] 27 (0, 0)) (bA BK153.out)) : gb173 ≠ gb153)); have n42_ := am ((by rw [hg]; exact Nat.ne_of_lt (blk_lt (g := gb159) (o := .cells #[.slice Ao109 t154.length co109, .int .i64 t157] 27 (0, 0)) (bA BK159.out)) : gb159 ≠ gb173)); have n43_ := am ((by rw [hg]; exact Nat.ne_of_gt (blk_lt (g := gb159) (o := .cells #[.slice Ao109 t154.length co109, .int .i64 t157] 27 (0, 0)) (bA BK159.out)) : gb173 ≠ gb159)); clear HO103 HO108; clear HO111 HO116; clear HO122 HO128; clear HO134 HO140; clear HO144 HO150; clear HO156 HO162; clear HO166 BK105; clear BK113 BK119; clear BK125 BK131; clear BK137 BK147; clear BK153 BK159 HB; have HO103 := n0_; have HO108 := n1_; have HO111 := n2_; have HO116 := n3_; have HO122 := n4_; have HO128 := n5_; have HO134 := n6_; have HO140 := n7_; have HO144 := n8_; have HO150 := n9_; have HO156 := n10_; have HO162 := n11_; have HO166 := n12_; have BK105 := n13_; have BK113 := n14_; have BK119 := n15_; have BK125 := n16_; have BK131 := n17_; have BK137 := n18_; have BK147 := n19_; have BK153 := n20_; have BK159 := n21_; have HB := n22_; have BK173 := n23_; have GW173 := n24_; have GE173 := n25_; have NB105_173 := n26_; have NB173_105 := n27_; have NB113_173 := n28_; have NB173_113 := n29_; have NB119_173 := n30_; have NB173_119 := n31_; have NB125_173 := n32_; have NB173_125 := n33_; have NB131_173 := n34_; have NB173_131 := n35_; have NB137_173 := n36_; have NB173_137 := n37_; have NB147_173 := n38_; have NB173_147 := n39_; have NB153_173 := n40_; have NB173_153 := n41_; have NB159_173 := n42_; have NB173_159 := n43_; clear n0_ n1_ n2_ n3_ n4_ n5_ n6_ n7_ n8_ n9_ n10_ n11_ n12_ n13_ n14_ n15_ n16_ n17_ n18_ n19_ n20_ n21_ n22_ n23_ n24_ n25_ n26_ n27_ n28_ n29_ n30_ n31_ n32_ n33_ n34_ n35_ n36_ n37_ n38_ n39_ n40_ n41_ n42_ n43_; clear hb hbox hg
     obtain ⟨Ao124, co124, eo124⟩ := Kd.R_slice HO162.out
     (first | subst eo124 | (injection eo124 with f1_ f2_ f3_; have f4_ := f1_.symm; have f5_ := f3_.symm; clear f1_ f2_ f3_; subst f4_; subst f5_))
     obtain ⟨Ao125, co125, eo125⟩ := Kd.R_slice HO166.out
     (first | subst eo125 | (injection eo125 with f1_ f2_ f3_; have f4_ := f1_.symm; have f5_ := f3_.symm; clear f1_ f2_ f3_; subst f4_; subst f5_))
     refine hK.out _ _ ⟨(blk_cell BK105.out 0).trans rfl, (blk_cell BK105.out 1).trans rfl, (blk_cell BK113.out 0).trans rfl, (blk_cell BK113.out 1).trans rfl⟩ (fun hHeld => ?_)
     clear hK K
     refine norm_ (a' := ?_) ?_ ?_; rotate_left
     ·show Act.put _ (some 19) _ = _
      simp only [Act.put, qa9, qb9, qc9, i64_w, i32_w]
      rfl
     refine one_ (i := 4) (N := some 75) q9_29 rfl rfl (one_of HT_.out (by kernel_rfl)) (by decide) (fun K hK => ?_)
     refine goes_ Try.func22 (by kernel_rfl) rfl #[.agg #[.slice Ao124 t160.length co124, .int .i64 t163], .agg #[.slice Ao125 t164.length co125, .int .i64 t167]] (by rfl) rfl rfl bE ?_
     with_reducible refine (impl_AddFloats.calls k _ _ t160 t163 _ _ t164 t167 t168 t171 t172 _ ?side1 ?side2 ?side3 ?side4 A16.out).mono ?_
     (case side1 => exact bD ((Kd.R_reads' HO162.out).2.2))
     (case side2 => exact (Kd.R_reads' HO162.out).2.1)
     (case side3 => exact bD ((Kd.R_reads' HO166.out).2.2))
     (case side4 => exact (Kd.R_reads' HO166.out).2.1)
     rintro e w126 ⟨v169, rfl, ho0, hb⟩
     refine ⟨_, rfl, ?_⟩
     have HO170 := am (Kd.R_lower (Kd.R_new' (Kd.R_new' (Kd.R_new' (Kd.R_new' (Kd.R_new' (Kd.R_new' (Kd.R_new' (Kd.R_new' (Kd.R_new' (Kd.R_new' (Kd.R_new' (Kd.R_new' ho0 (Kd.R_lt (bC HO103.out))) (Kd.R_lt (bC HO111.out))) (Kd.R_lt (bC HO116.out))) (Kd.R_lt (bC HO122.out))) (Kd.R_lt (bC HO128.out))) (Kd.R_lt (bC HO134.out))) (Kd.R_lt (bC HO140.out))) (Kd.R_lt (bC HO144.out))) (Kd.R_lt (bC HO150.out))) (Kd.R_lt (bC HO156.out))) (Kd.R_lt (bC HO162.out))) (Kd.R_lt (bC HO166.out))) (below_size (bB HB.out))); replace HO103 := am (Kd.R_elder' (bC HO103.out) (Kd.R_base ho0) hb); replace HO108 := am (Kd.R_below (bC HO108.out) hb); replace HO111 := am (Kd.R_elder' (bC HO111.out) (Kd.R_base ho0) hb); replace HO116 := am (Kd.R_elder' (bC HO116.out) (Kd.R_base ho0) hb); replace HO122 := am (Kd.R_elder' (bC HO122.out) (Kd.R_base ho0) hb); replace HO128 := am (Kd.R_elder' (bC HO128.out) (Kd.R_base ho0) hb); replace HO134 := am (Kd.R_elder' (bC HO134.out) (Kd.R_base ho0) hb); replace HO140 := am (Kd.R_elder' (bC HO140.out) (Kd.R_base ho0) hb); replace HO144 := am (Kd.R_elder' (bC HO144.out) (Kd.R_base ho0) hb); replace HO150 := am (Kd.R_elder' (bC HO150.out) (Kd.R_base ho0) hb); replace HO156 := am (Kd.R_elder' (bC HO156.out) (Kd.R_base ho0) hb); replace HO162 := am (Kd.R_elder' (bC HO162.out) (Kd.R_base ho0) hb); replace HO166 := am (Kd.R_elder' (bC HO166.out) (Kd.R_base ho0) hb); replace BK105 := am (blk_below (bA BK105.out) hb); replace BK113 := am (blk_below (bA BK113.out) hb); replace BK119 := am (blk_below (bA BK119.out) hb); replace BK125 := am (blk_below (bA BK125.out) hb); replace BK131 := am (blk_below (bA BK131.out) hb); replace BK137 := am (blk_below (bA BK137.out) hb); replace BK147 := am (blk_below (bA BK147.out) hb); replace BK153 := am (blk_below (bA BK153.out) hb); replace BK159 := am (blk_below (bA BK159.out) hb); replace BK173 := am (blk_below (bA BK173.out) hb); replace HB := am (below_step (bB HB.out) hb); (try clear hb); (try clear hb2); (try clear hk); (try clear hi); (try clear ho0); clear A16
     refine hK.out _ _ ⟨(blk_cell BK105.out 0).trans rfl, (blk_cell BK105.out 1).trans rfl, (blk_cell BK113.out 0).trans rfl, (blk_cell BK113.out 1).trans rfl⟩ (fun hHeld => ?_)
     clear hK K
     refine norm_ (a' := ?_) ?_ ?_; rotate_left
     ·show Act.put _ (some 75) _ = _
      simp only [Act.put, qa9, qb9, qc9, i64_w, i32_w]
      rfl
     refine pure_ (i := 5) (N := some 70) (v := ?_) (a' := ?_) q9_30 rfl rfl (any_of HT_.out (by kernel_rfl)) (fun _ _ _ h => h) (Or.inl ⟨by rfl, ?_⟩) ?_ ?_; rotate_left
     ·intro w'
      go_simp; with_reducible rfl
     rotate_left
     ·simp only [Act.put, qa9, qb9, qc9, i64_w, i32_w]
      rfl
     refine pure_ (i := 6) (N := some 76) (v := ?_) (a' := ?_) q9_31 rfl rfl (any_of HT_.out (by kernel_rfl)) (fun _ _ _ h => h) (Or.inl ⟨by rfl, ?_⟩) ?_ ?_; rotate_left
     ·intro w'
      go_simp; with_reducible rfl
     rotate_left
     ·simp only [Act.put, qa9, qb9, qc9, i64_w, i32_w]
      rfl
     refine pure_ (i := 7) (N := some 77) (v := ?_) (a' := ?_) q9_19 rfl rfl (any_of HT_.out (by kernel_rfl)) (fun _ _ _ h => h) (Or.inl ⟨by rfl, ?_⟩) ?_ ?_; rotate_left
     ·intro w'
      go_simp; with_reducible rfl
     rotate_left
     ·simp only [Act.put, qa9, qb9, qc9, i64_w, i32_w]
      rfl
     exact norm_ (by simp only [putAll, Act.put, qa9, qb9, qc9]) (hCont (.slice Ao124 t160.length co124, .slice Ao125 t164.length co125, v169, gb173) _ ⟨hHeld, (bC (rM HO103.out)), (bC HO108.out), (bC (rM HO111.out)), (bC (rM HO116.out)), (bC (rM HO122.out)), (bC (rM HO128.out)), (bC (rM HO134.out)), (bC (rM HO140.out)), (bC (rM HO144.out)), (bC (rM HO150.out)), (bC (rM HO156.out)), (bC (rM HO162.out)), (bC (rM HO166.out)), (bC (rM HO170.out)), (bA BK105.out), (bA BK113.out), (bA BK119.out), (bA BK125.out), (bA BK131.out), (bA BK137.out), (bA BK147.out), (bA BK153.out), (bA BK159.out), (bA BK173.out), GW173.out, GE173.out, NB105_173.out, NB173_105.out, NB113_173.out, NB173_113.out, NB119_173.out, NB173_119.out, NB125_173.out, NB173_125.out, NB131_173.out, NB173_131.out, NB137_173.out, NB173_137.out, NB147_173.out, NB173_147.out, NB153_173.out, NB173_153.out, NB159_173.out, NB173_159.out, (bB HB.out)⟩)
   ·skip
    refine box_step ?hg (N := 19) ?hd (cs := #[.slice none 0 0, .int .i64 0]) (t := 27) ?hr ?_; (case hd => rfl); (case hg => rfl); (case hr => first | (go_simp; done) | (go_simp; rfl))
    intro gb173 hg w122 hbox hb
    have n0_ := am (Kd.R_below (bC HO103.out) hb); have n1_ := am (Kd.R_below (bC HO108.out) hb); have n2_ := am (Kd.R_below (bC HO111.out) hb); have n3_ := am (Kd.R_below (bC HO116.out) hb); have n4_ := am (Kd.R_below (bC HO122.out) hb); have n5_ := am (Kd.R_below (bC HO128.out) hb); have n6_ := am (Kd.R_below (bC HO134.out) hb); have n7_ := am (Kd.R_below (bC HO140.out) hb); have n8_ := am (Kd.R_below (bC HO144.out) hb); have n9_ := am (Kd.R_below (bC HO150.out) hb); have n10_ := am (Kd.R_below (bC HO156.out) hb); have n11_ := am (Kd.R_below (bC HO162.out) hb); have n12_ := am (blk_below (bA BK105.out) hb); have n13_ := am (blk_below (bA BK113.out) hb); have n14_ := am (blk_below (bA BK119.out) hb); have n15_ := am (blk_below (bA BK125.out) hb); have n16_ := am (blk_below (bA BK131.out) hb); have n17_ := am (blk_below (bA BK137.out) hb); have n18_ := am (blk_below (bA BK147.out) hb); have n19_ := am (blk_below (bA BK153.out) hb); have n20_ := am (blk_below (bA BK159.out) hb); have n21_ := am (below_step (bB HB.out) hb); have n22_ := am (hbox); have n23_ := am ((by rw [hg]; exact (below_size (bB HB.out)) : w.heap.size ≤ gb173)); have n24_ := am ((by rw [hg]; exact (below_size (bB HB.out)) : w.heap.size ≤ gb173)); have n25_ := am ((by rw [hg]; exact Nat.ne_of_lt (blk_lt (g := gb105) (o := .cells #[.slice Ao36 t101.length co36, .int .i64 t104] 27 (0, 0)) (bA BK105.out)) : gb105 ≠ gb173)); have n26_ := am ((by rw [hg]; exact Nat.ne_of_gt (blk_lt (g := gb105) (o := .cells #[.slice Ao36 t101.length co36, .int .i64 t104] 27 (0, 0)) (bA BK105.out)) : gb173 ≠ gb105)); have n27_ := am ((by rw [hg]; exact Nat.ne_of_lt (blk_lt (g := gb113) (o := .cells #[.slice Ao42 t109.length co42, .int .i64 t112] 27 (0, 0)) (bA BK113.out)) : gb113 ≠ gb173)); have n28_ := am ((by rw [hg]; exact Nat.ne_of_gt (blk_lt (g := gb113) (o := .cells #[.slice Ao42 t109.length co42, .int .i64 t112] 27 (0, 0)) (bA BK113.out)) : gb173 ≠ gb113)); have n29_ := am ((by rw [hg]; exact Nat.ne_of_lt (blk_lt (g := gb119) (o := .cells #[.slice Ao47 t114.length co47, .int .i64 t117] 27 (0, 0)) (bA BK119.out)) : gb119 ≠ gb173)); have n30_ := am ((by rw [hg]; exact Nat.ne_of_gt (blk_lt (g := gb119) (o := .cells #[.slice Ao47 t114.length co47, .int .i64 t117] 27 (0, 0)) (bA BK119.out)) : gb173 ≠ gb119)); have n31_ := am ((by rw [hg]; exact Nat.ne_of_lt (blk_lt (g := gb125) (o := .cells #[.slice Ao55 t120.length co55, .int .i64 t123] 27 (0, 0)) (bA BK125.out)) : gb125 ≠ gb173)); have n32_ := am ((by rw [hg]; exact Nat.ne_of_gt (blk_lt (g := gb125) (o := .cells #[.slice Ao55 t120.length co55, .int .i64 t123] 27 (0, 0)) (bA BK125.out)) : gb173 ≠ gb125)); have n33_ := am ((by rw [hg]; exact Nat.ne_of_lt (blk_lt (g := gb131) (o := .cells #[.slice Ao64 t126.length co64, .int .i64 t129] 27 (0, 0)) (bA BK131.out)) : gb131 ≠ gb173)); have n34_ := am ((by rw [hg]; exact Nat.ne_of_gt (blk_lt (g := gb131) (o := .cells #[.slice Ao64 t126.length co64, .int .i64 t129] 27 (0, 0)) (bA BK131.out)) : gb173 ≠ gb131))
    have n35_ := am ((by rw [hg]; exact Nat.ne_of_lt (blk_lt (g := gb137) (o := .cells #[.slice Ao74 t132.length co74, .int .i64 t135] 27 (0, 0)) (bA BK137.out)) : gb137 ≠ gb173)); have n36_ := am ((by rw [hg]; exact Nat.ne_of_gt (blk_lt (g := gb137) (o := .cells #[.slice Ao74 t132.length co74, .int .i64 t135] 27 (0, 0)) (bA BK137.out)) : gb173 ≠ gb137)); have n37_ := am ((by rw [hg]; exact Nat.ne_of_lt (blk_lt (g := gb147) (o := .cells #[.slice Ao88 t142.length co88, .int .i64 t145] 27 (0, 0)) (bA BK147.out)) : gb147 ≠ gb173)); have n38_ := am ((by rw [hg]; exact Nat.ne_of_gt (blk_lt (g := gb147) (o := .cells #[.slice Ao88 t142.length co88, .int .i64 t145] 27 (0, 0)) (bA BK147.out)) : gb173 ≠ gb147)); have n39_ := am ((by rw [hg]; exact Nat.ne_of_lt (blk_lt (g := gb153) (o := .cells #[.slice Ao95 t148.length co95, .int .i64 t151] 27 (0, 0)) (bA BK153.out)) : gb153 ≠ gb173)); have n40_ := am ((by rw [hg]; exact Nat.ne_of_gt (blk_lt (g := gb153) (o := .cells #[.slice Ao95 t148.length co95, .int .i64 t151] 27 (0, 0)) (bA BK153.out)) : gb173 ≠ gb153)); have n41_ := am ((by rw [hg]; exact Nat.ne_of_lt (blk_lt (g := gb159) (o := .cells #[.slice Ao109 t154.length co109, .int .i64 t157] 27 (0, 0)) (bA BK159.out)) : gb159 ≠ gb173)); have n42_ := am ((by rw [hg]; exact Nat.ne_of_gt (blk_lt (g := gb159) (o := .cells #[.slice Ao109 t154.length co109, .int .i64 t157] 27 (0, 0)) (bA BK159.out)) : gb173 ≠ gb159)); clear HO103 HO108; clear HO111 HO116; clear HO122 HO128; clear HO134 HO140; clear HO144 HO150; clear HO156 HO162; clear BK105 BK113; clear BK119 BK125; clear BK131 BK137; clear BK147 BK153; clear BK159 HB; have HO103 := n0_; have HO108 := n1_; have HO111 := n2_; have HO116 := n3_; have HO122 := n4_; have HO128 := n5_; have HO134 := n6_; have HO140 := n7_; have HO144 := n8_; have HO150 := n9_; have HO156 := n10_; have HO162 := n11_; have BK105 := n12_; have BK113 := n13_; have BK119 := n14_; have BK125 := n15_; have BK131 := n16_; have BK137 := n17_; have BK147 := n18_; have BK153 := n19_; have BK159 := n20_; have HB := n21_; have BK173 := n22_; have GW173 := n23_; have GE173 := n24_; have NB105_173 := n25_; have NB173_105 := n26_; have NB113_173 := n27_; have NB173_113 := n28_; have NB119_173 := n29_; have NB173_119 := n30_; have NB125_173 := n31_; have NB173_125 := n32_; have NB131_173 := n33_; have NB173_131 := n34_; have NB137_173 := n35_; have NB173_137 := n36_; have NB147_173 := n37_; have NB173_147 := n38_; have NB153_173 := n39_; have NB173_153 := n40_; have NB159_173 := n41_; have NB173_159 := n42_; clear n0_ n1_ n2_ n3_ n4_ n5_ n6_ n7_ n8_ n9_ n10_ n11_ n12_ n13_ n14_ n15_ n16_ n17_ n18_ n19_ n20_ n21_ n22_ n23_ n24_ n25_ n26_ n27_ n28_ n29_ n30_ n31_ n32_ n33_ n34_ n35_ n36_ n37_ n38_ n39_ n40_ n41_ n42_; clear hb hbox hg
    refine hK.out _ _ ⟨(blk_cell BK105.out 0).trans rfl, (blk_cell BK105.out 1).trans rfl, (blk_cell BK113.out 0).trans rfl, (blk_cell BK113.out 1).trans rfl⟩ (fun hHeld => ?_)
    clear hK K
    refine norm_ (a' := ?_) ?_ ?_; rotate_left
    ·show Act.put _ (some 19) _ = _
     simp only [Act.put, qa9, qb9, qc9, i64_w, i32_w]
     rfl
    refine one_ (i := 3) (N := some 74) q9_25 rfl rfl (one_of HT_.out (by kernel_rfl)) (by decide) (fun K hK => ?_)
    refine goes_ Try.func31 (by kernel_rfl) rfl #[.agg #[.slice Ao42 t109.length co42, .int .i64 t112]] (by rfl) rfl rfl bE ?_
    with_reducible refine (impl_NegateFloat.calls k _ _ t109 t112 t164 t167 _ ?side1 ?side2 A15.out).mono ?_
    (case side1 => exact bD ((Kd.R_reads' HO111.out).2.2))
    (case side2 => exact (Kd.R_reads' HO111.out).2.1)
    rintro e w123 ⟨v165, rfl, ho0, hb⟩
    refine ⟨_, rfl, ?_⟩
    have HO166 := am (Kd.R_lower (Kd.R_new' (Kd.R_new' (Kd.R_new' (Kd.R_new' (Kd.R_new' (Kd.R_new' (Kd.R_new' (Kd.R_new' (Kd.R_new' (Kd.R_new' (Kd.R_new' ho0 (Kd.R_lt (bC HO103.out))) (Kd.R_lt (bC HO111.out))) (Kd.R_lt (bC HO116.out))) (Kd.R_lt (bC HO122.out))) (Kd.R_lt (bC HO128.out))) (Kd.R_lt (bC HO134.out))) (Kd.R_lt (bC HO140.out))) (Kd.R_lt (bC HO144.out))) (Kd.R_lt (bC HO150.out))) (Kd.R_lt (bC HO156.out))) (Kd.R_lt (bC HO162.out))) (below_size (bB HB.out))); replace HO103 := am (Kd.R_elder' (bC HO103.out) (Kd.R_base ho0) hb); replace HO108 := am (Kd.R_below (bC HO108.out) hb); replace HO111 := am (Kd.R_elder' (bC HO111.out) (Kd.R_base ho0) hb); replace HO116 := am (Kd.R_elder' (bC HO116.out) (Kd.R_base ho0) hb); replace HO122 := am (Kd.R_elder' (bC HO122.out) (Kd.R_base ho0) hb); replace HO128 := am (Kd.R_elder' (bC HO128.out) (Kd.R_base ho0) hb); replace HO134 := am (Kd.R_elder' (bC HO134.out) (Kd.R_base ho0) hb); replace HO140 := am (Kd.R_elder' (bC HO140.out) (Kd.R_base ho0) hb); replace HO144 := am (Kd.R_elder' (bC HO144.out) (Kd.R_base ho0) hb); replace HO150 := am (Kd.R_elder' (bC HO150.out) (Kd.R_base ho0) hb); replace HO156 := am (Kd.R_elder' (bC HO156.out) (Kd.R_base ho0) hb); replace HO162 := am (Kd.R_elder' (bC HO162.out) (Kd.R_base ho0) hb); replace BK105 := am (blk_below (bA BK105.out) hb); replace BK113 := am (blk_below (bA BK113.out) hb); replace BK119 := am (blk_below (bA BK119.out) hb); replace BK125 := am (blk_below (bA BK125.out) hb); replace BK131 := am (blk_below (bA BK131.out) hb); replace BK137 := am (blk_below (bA BK137.out) hb); replace BK147 := am (blk_below (bA BK147.out) hb); replace BK153 := am (blk_below (bA BK153.out) hb); replace BK159 := am (blk_below (bA BK159.out) hb); replace BK173 := am (blk_below (bA BK173.out) hb); replace HB := am (below_step (bB HB.out) hb); (try clear hb); (try clear hb2); (try clear hk); (try clear hi); (try clear ho0); clear A15
    obtain ⟨Ao124, co124, eo124⟩ := Kd.R_slice HO162.out
    (first | subst eo124 | (injection eo124 with f1_ f2_ f3_; have f4_ := f1_.symm; have f5_ := f3_.symm; clear f1_ f2_ f3_; subst f4_; subst f5_))
    obtain ⟨Ao125, co125, eo125⟩ := Kd.R_slice HO166.out
    (first | subst eo125 | (injection eo125 with f1_ f2_ f3_; have f4_ := f1_.symm; have f5_ := f3_.symm; clear f1_ f2_ f3_; subst f4_; subst f5_))
    refine hK.out _ _ ⟨(blk_cell BK105.out 0).trans rfl, (blk_cell BK105.out 1).trans rfl, (blk_cell BK113.out 0).trans rfl, (blk_cell BK113.out 1).trans rfl⟩ (fun hHeld => ?_)
    clear hK K
    refine norm_ (a' := ?_) ?_ ?_; rotate_left
    ·show Act.put _ (some 74) _ = _
     simp only [Act.put, qa9, qb9, qc9, i64_w, i32_w]
     rfl
    refine one_ (i := 4) (N := some 75) q9_29 rfl rfl (one_of HT_.out (by kernel_rfl)) (by decide) (fun K hK => ?_)
    refine goes_ Try.func22 (by kernel_rfl) rfl #[.agg #[.slice Ao124 t160.length co124, .int .i64 t163], .agg #[.slice Ao125 t164.length co125, .int .i64 t167]] (by rfl) rfl rfl bE ?_
    with_reducible refine (impl_AddFloats.calls k _ _ t160 t163 _ _ t164 t167 t168 t171 t172 _ ?side1 ?side2 ?side3 ?side4 A16.out).mono ?_
    (case side1 => exact bD ((Kd.R_reads' HO162.out).2.2))
    (case side2 => exact (Kd.R_reads' HO162.out).2.1)
    (case side3 => exact bD ((Kd.R_reads' HO166.out).2.2))
    (case side4 => exact (Kd.R_reads' HO166.out).2.1)
    rintro e w126 ⟨v169, rfl, ho0, hb⟩
    refine ⟨_, rfl, ?_⟩
    have HO170 := am (Kd.R_lower (Kd.R_new' (Kd.R_new' (Kd.R_new' (Kd.R_new' (Kd.R_new' (Kd.R_new' (Kd.R_new' (Kd.R_new' (Kd.R_new' (Kd.R_new' (Kd.R_new' (Kd.R_new' ho0 (Kd.R_lt (bC HO103.out))) (Kd.R_lt (bC HO111.out))) (Kd.R_lt (bC HO116.out))) (Kd.R_lt (bC HO122.out))) (Kd.R_lt (bC HO128.out))) (Kd.R_lt (bC HO134.out))) (Kd.R_lt (bC HO140.out))) (Kd.R_lt (bC HO144.out))) (Kd.R_lt (bC HO150.out))) (Kd.R_lt (bC HO156.out))) (Kd.R_lt (bC HO162.out))) (Kd.R_lt (bC HO166.out))) (below_size (bB HB.out))); replace HO103 := am (Kd.R_elder' (bC HO103.out) (Kd.R_base ho0) hb); replace HO108 := am (Kd.R_below (bC HO108.out) hb); replace HO111 := am (Kd.R_elder' (bC HO111.out) (Kd.R_base ho0) hb); replace HO116 := am (Kd.R_elder' (bC HO116.out) (Kd.R_base ho0) hb); replace HO122 := am (Kd.R_elder' (bC HO122.out) (Kd.R_base ho0) hb); replace HO128 := am (Kd.R_elder' (bC HO128.out) (Kd.R_base ho0) hb); replace HO134 := am (Kd.R_elder' (bC HO134.out) (Kd.R_base ho0) hb); replace HO140 := am (Kd.R_elder' (bC HO140.out) (Kd.R_base ho0) hb); replace HO144 := am (Kd.R_elder' (bC HO144.out) (Kd.R_base ho0) hb); replace HO150 := am (Kd.R_elder' (bC HO150.out) (Kd.R_base ho0) hb); replace HO156 := am (Kd.R_elder' (bC HO156.out) (Kd.R_base ho0) hb); replace HO162 := am (Kd.R_elder' (bC HO162.out) (Kd.R_base ho0) hb); replace HO166 := am (Kd.R_elder' (bC HO166.out) (Kd.R_base ho0) hb); replace BK105 := am (blk_below (bA BK105.out) hb); replace BK113 := am (blk_below (bA BK113.out) hb); replace BK119 := am (blk_below (bA BK119.out) hb); replace BK125 := am (blk_below (bA BK125.out) hb); replace BK131 := am (blk_below (bA BK131.out) hb); replace BK137 := am (blk_below (bA BK137.out) hb); replace BK147 := am (blk_below (bA BK147.out) hb); replace BK153 := am (blk_below (bA BK153.out) hb); replace BK159 := am (blk_below (bA BK159.out) hb); replace BK173 := am (blk_below (bA BK173.out) hb); replace HB := am (below_step (bB HB.out) hb); (try clear hb); (try clear hb2); (try clear hk); (try clear hi); (try clear ho0); clear A16
    refine hK.out _ _ ⟨(blk_cell BK105.out 0).trans rfl, (blk_cell BK105.out 1).trans rfl, (blk_cell BK113.out 0).trans rfl, (blk_cell BK113.out 1).trans rfl⟩ (fun hHeld => ?_)
    clear hK K
    refine norm_ (a' := ?_) ?_ ?_; rotate_left
    ·show Act.put _ (some 75) _ = _
     simp only [Act.put, qa9, qb9, qc9, i64_w, i32_w]
     rfl
    refine pure_ (i := 5) (N := some 70) (v := ?_) (a' := ?_) q9_30 rfl rfl (any_of HT_.out (by kernel_rfl)) (fun _ _ _ h => h) (Or.inl ⟨by rfl, ?_⟩) ?_ ?_; rotate_left
    ·intro w'
     go_simp; with_reducible rfl
    rotate_left
    ·simp only [Act.put, qa9, qb9, qc9, i64_w, i32_w]
     rfl
    refine pure_ (i := 6) (N := some 76) (v := ?_) (a' := ?_) q9_31 rfl rfl (any_of HT_.out (by kernel_rfl)) (fun _ _ _ h => h) (Or.inl ⟨by rfl, ?_⟩) ?_ ?_; rotate_left
    ·intro w'
     go_simp; with_reducible rfl
    rotate_left
    ·simp only [Act.put, qa9, qb9, qc9, i64_w, i32_w]
     rfl
    refine pure_ (i := 7) (N := some 77) (v := ?_) (a' := ?_) q9_19 rfl rfl (any_of HT_.out (by kernel_rfl)) (fun _ _ _ h => h) (Or.inl ⟨by rfl, ?_⟩) ?_ ?_; rotate_left
    ·intro w'
     go_simp; with_reducible rfl
    rotate_left
    ·simp only [Act.put, qa9, qb9, qc9, i64_w, i32_w]
     rfl
    exact norm_ (by simp only [putAll, Act.put, qa9, qb9, qc9]) (hCont (.slice Ao124 t160.length co124, .slice Ao125 t164.length co125, v169, gb173) _ ⟨hHeld, (bC (rM HO103.out)), (bC HO108.out), (bC (rM HO111.out)), (bC (rM HO116.out)), (bC (rM HO122.out)), (bC (rM HO128.out)), (bC (rM HO134.out)), (bC (rM HO140.out)), (bC (rM HO144.out)), (bC (rM HO150.out)), (bC (rM HO156.out)), (bC (rM HO162.out)), (bC (rM HO166.out)), (bC (rM HO170.out)), (bA BK105.out), (bA BK113.out), (bA BK119.out), (bA BK125.out), (bA BK131.out), (bA BK137.out), (bA BK147.out), (bA BK153.out), (bA BK159.out), (bA BK173.out), GW173.out, GE173.out, NB105_173.out, NB173_105.out, NB113_173.out, NB173_113.out, NB119_173.out, NB173_119.out, NB125_173.out, NB173_125.out, NB131_173.out, NB173_131.out, NB137_173.out, NB173_137.out, NB147_173.out, NB173_147.out, NB153_173.out, NB173_153.out, NB159_173.out, NB173_159.out, (bB HB.out)⟩)
  ·skip
   refine box_step ?hg (N := 19) ?hd (cs := #[.slice none 0 0, .int .i64 0]) (t := 27) ?hr ?_; (case hd => rfl); (case hg => rfl); (case hr => first | (go_simp; done) | (go_simp; rfl))
   intro gb173 hg w121 hbox hb
   have n0_ := am (Kd.R_below (bC HO103.out) hb); have n1_ := am (Kd.R_below (bC HO108.out) hb); have n2_ := am (Kd.R_below (bC HO111.out) hb); have n3_ := am (Kd.R_below (bC HO116.out) hb); have n4_ := am (Kd.R_below (bC HO122.out) hb); have n5_ := am (Kd.R_below (bC HO128.out) hb); have n6_ := am (Kd.R_below (bC HO134.out) hb); have n7_ := am (Kd.R_below (bC HO140.out) hb); have n8_ := am (Kd.R_below (bC HO144.out) hb); have n9_ := am (Kd.R_below (bC HO150.out) hb); have n10_ := am (Kd.R_below (bC HO156.out) hb); have n11_ := am (blk_below (bA BK105.out) hb); have n12_ := am (blk_below (bA BK113.out) hb); have n13_ := am (blk_below (bA BK119.out) hb); have n14_ := am (blk_below (bA BK125.out) hb); have n15_ := am (blk_below (bA BK131.out) hb); have n16_ := am (blk_below (bA BK137.out) hb); have n17_ := am (blk_below (bA BK147.out) hb); have n18_ := am (blk_below (bA BK153.out) hb); have n19_ := am (blk_below (bA BK159.out) hb); have n20_ := am (below_step (bB HB.out) hb); have n21_ := am (hbox); have n22_ := am ((by rw [hg]; exact (below_size (bB HB.out)) : w.heap.size ≤ gb173)); have n23_ := am ((by rw [hg]; exact (below_size (bB HB.out)) : w.heap.size ≤ gb173)); have n24_ := am ((by rw [hg]; exact Nat.ne_of_lt (blk_lt (g := gb105) (o := .cells #[.slice Ao36 t101.length co36, .int .i64 t104] 27 (0, 0)) (bA BK105.out)) : gb105 ≠ gb173)); have n25_ := am ((by rw [hg]; exact Nat.ne_of_gt (blk_lt (g := gb105) (o := .cells #[.slice Ao36 t101.length co36, .int .i64 t104] 27 (0, 0)) (bA BK105.out)) : gb173 ≠ gb105)); have n26_ := am ((by rw [hg]; exact Nat.ne_of_lt (blk_lt (g := gb113) (o := .cells #[.slice Ao42 t109.length co42, .int .i64 t112] 27 (0, 0)) (bA BK113.out)) : gb113 ≠ gb173)); have n27_ := am ((by rw [hg]; exact Nat.ne_of_gt (blk_lt (g := gb113) (o := .cells #[.slice Ao42 t109.length co42, .int .i64 t112] 27 (0, 0)) (bA BK113.out)) : gb173 ≠ gb113)); have n28_ := am ((by rw [hg]; exact Nat.ne_of_lt (blk_lt (g := gb119) (o := .cells #[.slice Ao47 t114.length co47, .int .i64 t117] 27 (0, 0)) (bA BK119.out)) : gb119 ≠ gb173)); have n29_ := am ((by rw [hg]; exact Nat.ne_of_gt (blk_lt (g := gb119) (o := .cells #[.slice Ao47 t114.length co47, .int .i64 t117] 27 (0, 0)) (bA BK119.out)) : gb173 ≠ gb119)); have n30_ := am ((by rw [hg]; exact Nat.ne_of_lt (blk_lt (g := gb125) (o := .cells #[.slice Ao55 t120.length co55, .int .i64 t123] 27 (0, 0)) (bA BK125.out)) : gb125 ≠ gb173)); have n31_ := am ((by rw [hg]; exact Nat.ne_of_gt (blk_lt (g := gb125) (o := .cells #[.slice Ao55 t120.length co55, .int .i64 t123] 27 (0, 0)) (bA BK125.out)) : gb173 ≠ gb125)); have n32_ := am ((by rw [hg]; exact Nat.ne_of_lt (blk_lt (g := gb131) (o := .cells #[.slice Ao64 t126.length co64, .int .i64 t129] 27 (0, 0)) (bA BK131.out)) : gb131 ≠ gb173)); have n33_ := am ((by rw [hg]; exact Nat.ne_of_gt (blk_lt (g := gb131) (o := .cells #[.slice Ao64 t126.length co64, .int .i64 t129] 27 (0, 0)) (bA BK131.out)) : gb173 ≠ gb131)); have n34_ := am ((by rw [hg]; exact Nat.ne_of_lt (blk_lt (g := gb137) (o := .cells #[.slice Ao74 t132.length co74, .int .i64 t135] 27 (0, 0)) (bA BK137.out)) : gb137 ≠ gb173))
   have n35_ := am ((by rw [hg]; exact Nat.ne_of_gt (blk_lt (g := gb137) (o := .cells #[.slice Ao74 t132.length co74, .int .i64 t135] 27 (0, 0)) (bA BK137.out)) : gb173 ≠ gb137)); have n36_ := am ((by rw [hg]; exact Nat.ne_of_lt (blk_lt (g := gb147) (o := .cells #[.slice Ao88 t142.length co88, .int .i64 t145] 27 (0, 0)) (bA BK147.out)) : gb147 ≠ gb173)); have n37_ := am ((by rw [hg]; exact Nat.ne_of_gt (blk_lt (g := gb147) (o := .cells #[.slice Ao88 t142.length co88, .int .i64 t145] 27 (0, 0)) (bA BK147.out)) : gb173 ≠ gb147)); have n38_ := am ((by rw [hg]; exact Nat.ne_of_lt (blk_lt (g := gb153) (o := .cells #[.slice Ao95 t148.length co95, .int .i64 t151] 27 (0, 0)) (bA BK153.out)) : gb153 ≠ gb173)); have n39_ := am ((by rw [hg]; exact Nat.ne_of_gt (blk_lt (g := gb153) (o := .cells #[.slice Ao95 t148.length co95, .int .i64 t151] 27 (0, 0)) (bA BK153.out)) : gb173 ≠ gb153)); have n40_ := am ((by rw [hg]; exact Nat.ne_of_lt (blk_lt (g := gb159) (o := .cells #[.slice Ao109 t154.length co109, .int .i64 t157] 27 (0, 0)) (bA BK159.out)) : gb159 ≠ gb173)); have n41_ := am ((by rw [hg]; exact Nat.ne_of_gt (blk_lt (g := gb159) (o := .cells #[.slice Ao109 t154.length co109, .int .i64 t157] 27 (0, 0)) (bA BK159.out)) : gb173 ≠ gb159)); clear HO103 HO108; clear HO111 HO116; clear HO122 HO128; clear HO134 HO140; clear HO144 HO150; clear HO156 BK105; clear BK113 BK119; clear BK125 BK131; clear BK137 BK147; clear BK153 BK159 HB; have HO103 := n0_; have HO108 := n1_; have HO111 := n2_; have HO116 := n3_; have HO122 := n4_; have HO128 := n5_; have HO134 := n6_; have HO140 := n7_; have HO144 := n8_; have HO150 := n9_; have HO156 := n10_; have BK105 := n11_; have BK113 := n12_; have BK119 := n13_; have BK125 := n14_; have BK131 := n15_; have BK137 := n16_; have BK147 := n17_; have BK153 := n18_; have BK159 := n19_; have HB := n20_; have BK173 := n21_; have GW173 := n22_; have GE173 := n23_; have NB105_173 := n24_; have NB173_105 := n25_; have NB113_173 := n26_; have NB173_113 := n27_; have NB119_173 := n28_; have NB173_119 := n29_; have NB125_173 := n30_; have NB173_125 := n31_; have NB131_173 := n32_; have NB173_131 := n33_; have NB137_173 := n34_; have NB173_137 := n35_; have NB147_173 := n36_; have NB173_147 := n37_; have NB153_173 := n38_; have NB173_153 := n39_; have NB159_173 := n40_; have NB173_159 := n41_; clear n0_ n1_ n2_ n3_ n4_ n5_ n6_ n7_ n8_ n9_ n10_ n11_ n12_ n13_ n14_ n15_ n16_ n17_ n18_ n19_ n20_ n21_ n22_ n23_ n24_ n25_ n26_ n27_ n28_ n29_ n30_ n31_ n32_ n33_ n34_ n35_ n36_ n37_ n38_ n39_ n40_ n41_; clear hb hbox hg
   refine hK.out _ _ ⟨(blk_cell BK105.out 0).trans rfl, (blk_cell BK105.out 1).trans rfl, (blk_cell BK113.out 0).trans rfl, (blk_cell BK113.out 1).trans rfl⟩ (fun hHeld => ?_)
   clear hK K
   refine norm_ (a' := ?_) ?_ ?_; rotate_left
   ·show Act.put _ (some 19) _ = _
    simp only [Act.put, qa9, qb9, qc9, i64_w, i32_w]
    rfl
   refine one_ (i := 1) (N := some 72) q9_23 rfl rfl (one_of HT_.out (by kernel_rfl)) (by decide) (fun K hK => ?_)
   refine goes_ Try.func31 (by kernel_rfl) rfl #[.agg #[.slice Ao36 t101.length co36, .int .i64 t104]] (by rfl) rfl rfl bE ?_
   with_reducible refine (impl_NegateFloat.calls k _ _ t101 t104 t160 t163 _ ?side1 ?side2 A14.out).mono ?_
   (case side1 => exact bD ((Kd.R_reads' HO103.out).2.2))
   (case side2 => exact (Kd.R_reads' HO103.out).2.1)
   rintro e w122 ⟨v161, rfl, ho0, hb⟩
   refine ⟨_, rfl, ?_⟩
   have HO162 := am (Kd.R_lower (Kd.R_new' (Kd.R_new' (Kd.R_new' (Kd.R_new' (Kd.R_new' (Kd.R_new' (Kd.R_new' (Kd.R_new' (Kd.R_new' (Kd.R_new' ho0 (Kd.R_lt (bC HO103.out))) (Kd.R_lt (bC HO111.out))) (Kd.R_lt (bC HO116.out))) (Kd.R_lt (bC HO122.out))) (Kd.R_lt (bC HO128.out))) (Kd.R_lt (bC HO134.out))) (Kd.R_lt (bC HO140.out))) (Kd.R_lt (bC HO144.out))) (Kd.R_lt (bC HO150.out))) (Kd.R_lt (bC HO156.out))) (below_size (bB HB.out))); replace HO103 := am (Kd.R_elder' (bC HO103.out) (Kd.R_base ho0) hb); replace HO108 := am (Kd.R_below (bC HO108.out) hb); replace HO111 := am (Kd.R_elder' (bC HO111.out) (Kd.R_base ho0) hb); replace HO116 := am (Kd.R_elder' (bC HO116.out) (Kd.R_base ho0) hb); replace HO122 := am (Kd.R_elder' (bC HO122.out) (Kd.R_base ho0) hb); replace HO128 := am (Kd.R_elder' (bC HO128.out) (Kd.R_base ho0) hb); replace HO134 := am (Kd.R_elder' (bC HO134.out) (Kd.R_base ho0) hb); replace HO140 := am (Kd.R_elder' (bC HO140.out) (Kd.R_base ho0) hb); replace HO144 := am (Kd.R_elder' (bC HO144.out) (Kd.R_base ho0) hb); replace HO150 := am (Kd.R_elder' (bC HO150.out) (Kd.R_base ho0) hb); replace HO156 := am (Kd.R_elder' (bC HO156.out) (Kd.R_base ho0) hb); replace BK105 := am (blk_below (bA BK105.out) hb); replace BK113 := am (blk_below (bA BK113.out) hb); replace BK119 := am (blk_below (bA BK119.out) hb); replace BK125 := am (blk_below (bA BK125.out) hb); replace BK131 := am (blk_below (bA BK131.out) hb); replace BK137 := am (blk_below (bA BK137.out) hb); replace BK147 := am (blk_below (bA BK147.out) hb); replace BK153 := am (blk_below (bA BK153.out) hb); replace BK159 := am (blk_below (bA BK159.out) hb); replace BK173 := am (blk_below (bA BK173.out) hb); replace HB := am (below_step (bB HB.out) hb); (try clear hb); (try clear hb2); (try clear hk); (try clear hi); (try clear ho0); clear A14
   refine hK.out _ _ ⟨(blk_cell BK105.out 0).trans rfl, (blk_cell BK105.out 1).trans rfl, (blk_cell BK113.out 0).trans rfl, (blk_cell BK113.out 1).trans rfl⟩ (fun hHeld => ?_)
   clear hK K
   refine norm_ (a' := ?_) ?_ ?_; rotate_left
   ·show Act.put _ (some 72) _ = _
    simp only [Act.put, qa9, qb9, qc9, i64_w, i32_w]
    rfl
   refine one_ (i := 3) (N := some 74) q9_25 rfl rfl (one_of HT_.out (by kernel_rfl)) (by decide) (fun K hK => ?_)
   refine goes_ Try.func31 (by kernel_rfl) rfl #[.agg #[.slice Ao42 t109.length co42, .int .i64 t112]] (by rfl) rfl rfl bE ?_
   with_reducible refine (impl_NegateFloat.calls k _ _ t109 t112 t164 t167 _ ?side1 ?side2 A15.out).mono ?_
   (case side1 => exact bD ((Kd.R_reads' HO111.out).2.2))
   (case side2 => exact (Kd.R_reads' HO111.out).2.1)
   rintro e w123 ⟨v165, rfl, ho0, hb⟩
   refine ⟨_, rfl, ?_⟩
   have HO166 := am (Kd.R_lower (Kd.R_new' (Kd.R_new' (Kd.R_new' (Kd.R_new' (Kd.R_new' (Kd.R_new' (Kd.R_new' (Kd.R_new' (Kd.R_new' (Kd.R_new' (Kd.R_new' ho0 (Kd.R_lt (bC HO103.out))) (Kd.R_lt (bC HO111.out))) (Kd.R_lt (bC HO116.out))) (Kd.R_lt (bC HO122.out))) (Kd.R_lt (bC HO128.out))) (Kd.R_lt (bC HO134.out))) (Kd.R_lt (bC HO140.out))) (Kd.R_lt (bC HO144.out))) (Kd.R_lt (bC HO150.out))) (Kd.R_lt (bC HO156.out))) (Kd.R_lt (bC HO162.out))) (below_size (bB HB.out))); replace HO103 := am (Kd.R_elder' (bC HO103.out) (Kd.R_base ho0) hb); replace HO108 := am (Kd.R_below (bC HO108.out) hb); replace HO111 := am (Kd.R_elder' (bC HO111.out) (Kd.R_base ho0) hb); replace HO116 := am (Kd.R_elder' (bC HO116.out) (Kd.R_base ho0) hb); replace HO122 := am (Kd.R_elder' (bC HO122.out) (Kd.R_base ho0) hb); replace HO128 := am (Kd.R_elder' (bC HO128.out) (Kd.R_base ho0) hb); replace HO134 := am (Kd.R_elder' (bC HO134.out) (Kd.R_base ho0) hb); replace HO140 := am (Kd.R_elder' (bC HO140.out) (Kd.R_base ho0) hb); replace HO144 := am (Kd.R_elder' (bC HO144.out) (Kd.R_base ho0) hb); replace HO150 := am (Kd.R_elder' (bC HO150.out) (Kd.R_base ho0) hb); replace HO156 := am (Kd.R_elder' (bC HO156.out) (Kd.R_base ho0) hb); replace HO162 := am (Kd.R_elder' (bC HO162.out) (Kd.R_base ho0) hb); replace BK105 := am (blk_below (bA BK105.out) hb); replace BK113 := am (blk_below (bA BK113.out) hb); replace BK119 := am (blk_below (bA BK119.out) hb); replace BK125 := am (blk_below (bA BK125.out) hb); replace BK131 := am (blk_below (bA BK131.out) hb); replace BK137 := am (blk_below (bA BK137.out) hb); replace BK147 := am (blk_below (bA BK147.out) hb); replace BK153 := am (blk_below (bA BK153.out) hb); replace BK159 := am (blk_below (bA BK159.out) hb); replace BK173 := am (blk_below (bA BK173.out) hb); replace HB := am (below_step (bB HB.out) hb); (try clear hb); (try clear hb2); (try clear hk); (try clear hi); (try clear ho0); clear A15
   obtain ⟨Ao124, co124, eo124⟩ := Kd.R_slice HO162.out
   (first | subst eo124 | (injection eo124 with f1_ f2_ f3_; have f4_ := f1_.symm; have f5_ := f3_.symm; clear f1_ f2_ f3_; subst f4_; subst f5_))
   obtain ⟨Ao125, co125, eo125⟩ := Kd.R_slice HO166.out
   (first | subst eo125 | (injection eo125 with f1_ f2_ f3_; have f4_ := f1_.symm; have f5_ := f3_.symm; clear f1_ f2_ f3_; subst f4_; subst f5_))
   refine hK.out _ _ ⟨(blk_cell BK105.out 0).trans rfl, (blk_cell BK105.out 1).trans rfl, (blk_cell BK113.out 0).trans rfl, (blk_cell BK113.out 1).trans rfl⟩ (fun hHeld => ?_)
   clear hK K
   refine norm_ (a' := ?_) ?_ ?_; rotate_left
   ·show Act.put _ (some 74) _ = _
    simp only [Act.put, qa9, qb9, qc9, i64_w, i32_w]
    rfl
   refine one_ (i := 4) (N := some 75) q9_29 rfl rfl (one_of HT_.out (by kernel_rfl)) (by decide) (fun K hK => ?_)
   refine goes_ Try.func22 (by kernel_rfl) rfl #[.agg #[.slice Ao124 t160.length co124, .int .i64 t163], .agg #[.slice Ao125 t164.length co125, .int .i64 t167]] (by rfl) rfl rfl bE ?_
   with_reducible refine (impl_AddFloats.calls k _ _ t160 t163 _ _ t164 t167 t168 t171 t172 _ ?side1 ?side2 ?side3 ?side4 A16.out).mono ?_
   (case side1 => exact bD ((Kd.R_reads' HO162.out).2.2))
   (case side2 => exact (Kd.R_reads' HO162.out).2.1)
   (case side3 => exact bD ((Kd.R_reads' HO166.out).2.2))
   (case side4 => exact (Kd.R_reads' HO166.out).2.1)
   rintro e w126 ⟨v169, rfl, ho0, hb⟩
   refine ⟨_, rfl, ?_⟩
   have HO170 := am (Kd.R_lower (Kd.R_new' (Kd.R_new' (Kd.R_new' (Kd.R_new' (Kd.R_new' (Kd.R_new' (Kd.R_new' (Kd.R_new' (Kd.R_new' (Kd.R_new' (Kd.R_new' (Kd.R_new' ho0 (Kd.R_lt (bC HO103.out))) (Kd.R_lt (bC HO111.out))) (Kd.R_lt (bC HO116.out))) (Kd.R_lt (bC HO122.out))) (Kd.R_lt (bC HO128.out))) (Kd.R_lt (bC HO134.out))) (Kd.R_lt (bC HO140.out))) (Kd.R_lt (bC HO144.out))) (Kd.R_lt (bC HO150.out))) (Kd.R_lt (bC HO156.out))) (Kd.R_lt (bC HO162.out))) (Kd.R_lt (bC HO166.out))) (below_size (bB HB.out))); replace HO103 := am (Kd.R_elder' (bC HO103.out) (Kd.R_base ho0) hb); replace HO108 := am (Kd.R_below (bC HO108.out) hb); replace HO111 := am (Kd.R_elder' (bC HO111.out) (Kd.R_base ho0) hb); replace HO116 := am (Kd.R_elder' (bC HO116.out) (Kd.R_base ho0) hb); replace HO122 := am (Kd.R_elder' (bC HO122.out) (Kd.R_base ho0) hb); replace HO128 := am (Kd.R_elder' (bC HO128.out) (Kd.R_base ho0) hb); replace HO134 := am (Kd.R_elder' (bC HO134.out) (Kd.R_base ho0) hb); replace HO140 := am (Kd.R_elder' (bC HO140.out) (Kd.R_base ho0) hb); replace HO144 := am (Kd.R_elder' (bC HO144.out) (Kd.R_base ho0) hb); replace HO150 := am (Kd.R_elder' (bC HO150.out) (Kd.R_base ho0) hb); replace HO156 := am (Kd.R_elder' (bC HO156.out) (Kd.R_base ho0) hb); replace HO162 := am (Kd.R_elder' (bC HO162.out) (Kd.R_base ho0) hb); replace HO166 := am (Kd.R_elder' (bC HO166.out) (Kd.R_base ho0) hb); replace BK105 := am (blk_below (bA BK105.out) hb); replace BK113 := am (blk_below (bA BK113.out) hb); replace BK119 := am (blk_below (bA BK119.out) hb); replace BK125 := am (blk_below (bA BK125.out) hb); replace BK131 := am (blk_below (bA BK131.out) hb); replace BK137 := am (blk_below (bA BK137.out) hb); replace BK147 := am (blk_below (bA BK147.out) hb); replace BK153 := am (blk_below (bA BK153.out) hb); replace BK159 := am (blk_below (bA BK159.out) hb); replace BK173 := am (blk_below (bA BK173.out) hb); replace HB := am (below_step (bB HB.out) hb); (try clear hb); (try clear hb2); (try clear hk); (try clear hi); (try clear ho0); clear A16
   refine hK.out _ _ ⟨(blk_cell BK105.out 0).trans rfl, (blk_cell BK105.out 1).trans rfl, (blk_cell BK113.out 0).trans rfl, (blk_cell BK113.out 1).trans rfl⟩ (fun hHeld => ?_)
   clear hK K
   refine norm_ (a' := ?_) ?_ ?_; rotate_left
   ·show Act.put _ (some 75) _ = _
    simp only [Act.put, qa9, qb9, qc9, i64_w, i32_w]
    rfl
   refine pure_ (i := 5) (N := some 70) (v := ?_) (a' := ?_) q9_30 rfl rfl (any_of HT_.out (by kernel_rfl)) (fun _ _ _ h => h) (Or.inl ⟨by rfl, ?_⟩) ?_ ?_; rotate_left
   ·intro w'
    go_simp; with_reducible rfl
   rotate_left
   ·simp only [Act.put, qa9, qb9, qc9, i64_w, i32_w]
    rfl
   refine pure_ (i := 6) (N := some 76) (v := ?_) (a' := ?_) q9_31 rfl rfl (any_of HT_.out (by kernel_rfl)) (fun _ _ _ h => h) (Or.inl ⟨by rfl, ?_⟩) ?_ ?_; rotate_left
   ·intro w'
    go_simp; with_reducible rfl
   rotate_left
   ·simp only [Act.put, qa9, qb9, qc9, i64_w, i32_w]
    rfl
   refine pure_ (i := 7) (N := some 77) (v := ?_) (a' := ?_) q9_19 rfl rfl (any_of HT_.out (by kernel_rfl)) (fun _ _ _ h => h) (Or.inl ⟨by rfl, ?_⟩) ?_ ?_; rotate_left
   ·intro w'
    go_simp; with_reducible rfl
   rotate_left
   ·simp only [Act.put, qa9, qb9, qc9, i64_w, i32_w]
    rfl
   exact norm_ (by simp only [putAll, Act.put, qa9, qb9, qc9]) (hCont (.slice Ao124 t160.length co124, .slice Ao125 t164.length co125, v169, gb173) _ ⟨hHeld, (bC (rM HO103.out)), (bC HO108.out), (bC (rM HO111.out)), (bC (rM HO116.out)), (bC (rM HO122.out)), (bC (rM HO128.out)), (bC (rM HO134.out)), (bC (rM HO140.out)), (bC (rM HO144.out)), (bC (rM HO150.out)), (bC (rM HO156.out)), (bC (rM HO162.out)), (bC (rM HO166.out)), (bC (rM HO170.out)), (bA BK105.out), (bA BK113.out), (bA BK119.out), (bA BK125.out), (bA BK131.out), (bA BK137.out), (bA BK147.out), (bA BK153.out), (bA BK159.out), (bA BK173.out), GW173.out, GE173.out, NB105_173.out, NB173_105.out, NB113_173.out, NB173_113.out, NB119_173.out, NB173_119.out, NB125_173.out, NB173_125.out, NB131_173.out, NB173_131.out, NB137_173.out, NB173_137.out, NB147_173.out, NB173_147.out, NB153_173.out, NB173_153.out, NB159_173.out, NB173_159.out, (bB HB.out)⟩)
 rintro ⟨v161, v165, v169, gb173⟩ w127 ⟨hS_, h0_, h1_, h2_, h3_, h4_, h5_, h6_, h7_, h8_, h9_, h10_, h11_, h12_, h13_, h14_, h15_, h16_, h17_, h18_, h19_, h20_, h21_, h22_, h23_, h24_, h25_, h26_, h27_, h28_, h29_, h30_, h31_, h32_, h33_, h34_, h35_, h36_, h37_, h38_, h39_, h40_, h41_, h42_, h43_, h44_⟩
 have n0_ : Aside0 (Kd.R (Kd.int .i64) 3 w127 w.heap.size (fun k_ => NS k_ Ao42 t109 co42 ∧ NS k_ Ao47 t114 co47 ∧ NS k_ Ao55 t120 co55 ∧ NS k_ Ao64 t126 co64 ∧ NS k_ Ao74 t132 co74 ∧ NB k_ (v139) ∧ NS k_ Ao88 t142 co88 ∧ NS k_ Ao95 t148 co95 ∧ NS k_ Ao109 t154 co109 ∧ NB k_ (v161) ∧ NB k_ (v165) ∧ NB k_ (v169)) (.slice Ao36 t101.length co36) t101) := ⟨h0_⟩
 have n1_ : Aside0 (Kd.R (Kd.int .u8) 5 w127 w.heap.size (fun _ => True) (.slice Ao39 t106.length co39) t106) := ⟨h1_⟩
 have n2_ : Aside0 (Kd.R (Kd.int .i64) 3 w127 w.heap.size (fun k_ => NS k_ Ao36 t101 co36 ∧ NS k_ Ao47 t114 co47 ∧ NS k_ Ao55 t120 co55 ∧ NS k_ Ao64 t126 co64 ∧ NS k_ Ao74 t132 co74 ∧ NB k_ (v139) ∧ NS k_ Ao88 t142 co88 ∧ NS k_ Ao95 t148 co95 ∧ NS k_ Ao109 t154 co109 ∧ NB k_ (v161) ∧ NB k_ (v165) ∧ NB k_ (v169)) (.slice Ao42 t109.length co42) t109) := ⟨h2_⟩
 have n3_ : Aside0 (Kd.R (Kd.int .i64) 3 w127 w.heap.size (fun k_ => NS k_ Ao36 t101 co36 ∧ NS k_ Ao42 t109 co42 ∧ NS k_ Ao55 t120 co55 ∧ NS k_ Ao64 t126 co64 ∧ NS k_ Ao74 t132 co74 ∧ NB k_ (v139) ∧ NS k_ Ao88 t142 co88 ∧ NS k_ Ao95 t148 co95 ∧ NS k_ Ao109 t154 co109 ∧ NB k_ (v161) ∧ NB k_ (v165) ∧ NB k_ (v169)) (.slice Ao47 t114.length co47) t114) := ⟨h3_⟩
 have n4_ : Aside0 (Kd.R (Kd.int .i64) 3 w127 w.heap.size (fun k_ => NS k_ Ao36 t101 co36 ∧ NS k_ Ao42 t109 co42 ∧ NS k_ Ao47 t114 co47 ∧ NS k_ Ao64 t126 co64 ∧ NS k_ Ao74 t132 co74 ∧ NB k_ (v139) ∧ NS k_ Ao88 t142 co88 ∧ NS k_ Ao95 t148 co95 ∧ NS k_ Ao109 t154 co109 ∧ NB k_ (v161) ∧ NB k_ (v165) ∧ NB k_ (v169)) (.slice Ao55 t120.length co55) t120) := ⟨h4_⟩
 have n5_ : Aside0 (Kd.R (Kd.int .i64) 3 w127 w.heap.size (fun k_ => NS k_ Ao36 t101 co36 ∧ NS k_ Ao42 t109 co42 ∧ NS k_ Ao47 t114 co47 ∧ NS k_ Ao55 t120 co55 ∧ NS k_ Ao74 t132 co74 ∧ NB k_ (v139) ∧ NS k_ Ao88 t142 co88 ∧ NS k_ Ao95 t148 co95 ∧ NS k_ Ao109 t154 co109 ∧ NB k_ (v161) ∧ NB k_ (v165) ∧ NB k_ (v169)) (.slice Ao64 t126.length co64) t126) := ⟨h5_⟩
 have n6_ : Aside0 (Kd.R (Kd.int .i64) 3 w127 w.heap.size (fun k_ => NS k_ Ao36 t101 co36 ∧ NS k_ Ao42 t109 co42 ∧ NS k_ Ao47 t114 co47 ∧ NS k_ Ao55 t120 co55 ∧ NS k_ Ao64 t126 co64 ∧ NB k_ (v139) ∧ NS k_ Ao88 t142 co88 ∧ NS k_ Ao95 t148 co95 ∧ NS k_ Ao109 t154 co109 ∧ NB k_ (v161) ∧ NB k_ (v165) ∧ NB k_ (v169)) (.slice Ao74 t132.length co74) t132) := ⟨h6_⟩
 have n7_ : Aside0 (Kd.R (Kd.int .i64) 3 w127 w.heap.size (fun k_ => NS k_ Ao36 t101 co36 ∧ NS k_ Ao42 t109 co42 ∧ NS k_ Ao47 t114 co47 ∧ NS k_ Ao55 t120 co55 ∧ NS k_ Ao64 t126 co64 ∧ NS k_ Ao74 t132 co74 ∧ NS k_ Ao88 t142 co88 ∧ NS k_ Ao95 t148 co95 ∧ NS k_ Ao109 t154 co109 ∧ NB k_ (v161) ∧ NB k_ (v165) ∧ NB k_ (v169)) v139 t138) := ⟨h7_⟩
 have n8_ : Aside0 (Kd.R (Kd.int .i64) 3 w127 w.heap.size (fun k_ => NS k_ Ao36 t101 co36 ∧ NS k_ Ao42 t109 co42 ∧ NS k_ Ao47 t114 co47 ∧ NS k_ Ao55 t120 co55 ∧ NS k_ Ao64 t126 co64 ∧ NS k_ Ao74 t132 co74 ∧ NB k_ (v139) ∧ NS k_ Ao95 t148 co95 ∧ NS k_ Ao109 t154 co109 ∧ NB k_ (v161) ∧ NB k_ (v165) ∧ NB k_ (v169)) (.slice Ao88 t142.length co88) t142) := ⟨h8_⟩
 have n9_ : Aside0 (Kd.R (Kd.int .i64) 3 w127 w.heap.size (fun k_ => NS k_ Ao36 t101 co36 ∧ NS k_ Ao42 t109 co42 ∧ NS k_ Ao47 t114 co47 ∧ NS k_ Ao55 t120 co55 ∧ NS k_ Ao64 t126 co64 ∧ NS k_ Ao74 t132 co74 ∧ NB k_ (v139) ∧ NS k_ Ao88 t142 co88 ∧ NS k_ Ao109 t154 co109 ∧ NB k_ (v161) ∧ NB k_ (v165) ∧ NB k_ (v169)) (.slice Ao95 t148.length co95) t148) := ⟨h9_⟩
 have n10_ : Aside0 (Kd.R (Kd.int .i64) 3 w127 w.heap.size (fun k_ => NS k_ Ao36 t101 co36 ∧ NS k_ Ao42 t109 co42 ∧ NS k_ Ao47 t114 co47 ∧ NS k_ Ao55 t120 co55 ∧ NS k_ Ao64 t126 co64 ∧ NS k_ Ao74 t132 co74 ∧ NB k_ (v139) ∧ NS k_ Ao88 t142 co88 ∧ NS k_ Ao95 t148 co95 ∧ NB k_ (v161) ∧ NB k_ (v165) ∧ NB k_ (v169)) (.slice Ao109 t154.length co109) t154) := ⟨h10_⟩
 have n11_ : Aside0 (Kd.R (Kd.int .i64) 3 w127 w.heap.size (fun k_ => NS k_ Ao36 t101 co36 ∧ NS k_ Ao42 t109 co42 ∧ NS k_ Ao47 t114 co47 ∧ NS k_ Ao55 t120 co55 ∧ NS k_ Ao64 t126 co64 ∧ NS k_ Ao74 t132 co74 ∧ NB k_ (v139) ∧ NS k_ Ao88 t142 co88 ∧ NS k_ Ao95 t148 co95 ∧ NS k_ Ao109 t154 co109 ∧ NB k_ (v165) ∧ NB k_ (v169)) v161 t160) := ⟨h11_⟩
 have n12_ : Aside0 (Kd.R (Kd.int .i64) 3 w127 w.heap.size (fun k_ => NS k_ Ao36 t101 co36 ∧ NS k_ Ao42 t109 co42 ∧ NS k_ Ao47 t114 co47 ∧ NS k_ Ao55 t120 co55 ∧ NS k_ Ao64 t126 co64 ∧ NS k_ Ao74 t132 co74 ∧ NB k_ (v139) ∧ NS k_ Ao88 t142 co88 ∧ NS k_ Ao95 t148 co95 ∧ NS k_ Ao109 t154 co109 ∧ NB k_ (v161) ∧ NB k_ (v169)) v165 t164) := ⟨h12_⟩
 have n13_ : Aside0 (Kd.R (Kd.int .i64) 3 w127 w.heap.size (fun k_ => NS k_ Ao36 t101 co36 ∧ NS k_ Ao42 t109 co42 ∧ NS k_ Ao47 t114 co47 ∧ NS k_ Ao55 t120 co55 ∧ NS k_ Ao64 t126 co64 ∧ NS k_ Ao74 t132 co74 ∧ NB k_ (v139) ∧ NS k_ Ao88 t142 co88 ∧ NS k_ Ao95 t148 co95 ∧ NS k_ Ao109 t154 co109 ∧ NB k_ (v161) ∧ NB k_ (v165)) v169 t168) := ⟨h13_⟩
 have n14_ : Aside0 (w127.heap[gb105]? = some (.cells #[.slice Ao36 t101.length co36, .int .i64 t104] 27 (0, 0))) := ⟨h14_⟩
 have n15_ : Aside0 (w127.heap[gb113]? = some (.cells #[.slice Ao42 t109.length co42, .int .i64 t112] 27 (0, 0))) := ⟨h15_⟩
 have n16_ : Aside0 (w127.heap[gb119]? = some (.cells #[.slice Ao47 t114.length co47, .int .i64 t117] 27 (0, 0))) := ⟨h16_⟩
 have n17_ : Aside0 (w127.heap[gb125]? = some (.cells #[.slice Ao55 t120.length co55, .int .i64 t123] 27 (0, 0))) := ⟨h17_⟩
 have n18_ : Aside0 (w127.heap[gb131]? = some (.cells #[.slice Ao64 t126.length co64, .int .i64 t129] 27 (0, 0))) := ⟨h18_⟩
 have n19_ : Aside0 (w127.heap[gb137]? = some (.cells #[.slice Ao74 t132.length co74, .int .i64 t135] 27 (0, 0))) := ⟨h19_⟩
 have n20_ : Aside0 (w127.heap[gb147]? = some (.cells #[.slice Ao88 t142.length co88, .int .i64 t145] 27 (0, 0))) := ⟨h20_⟩
 have n21_ : Aside0 (w127.heap[gb153]? = some (.cells #[.slice Ao95 t148.length co95, .int .i64 t151] 27 (0, 0))) := ⟨h21_⟩
 have n22_ : Aside0 (w127.heap[gb159]? = some (.cells #[.slice Ao109 t154.length co109, .int .i64 t157] 27 (0, 0))) := ⟨h22_⟩
 have n23_ : Aside0 (w127.heap[gb173]? = some (.cells #[.slice none 0 0, .int .i64 0] 27 (0, 0))) := ⟨h23_⟩
 have n24_ : Aside0 (w.heap.size ≤ gb173) := ⟨h24_⟩
 have n25_ : Aside0 (w.heap.size ≤ gb173) := ⟨h25_⟩
 have n26_ : Aside0 (gb105 ≠ gb173) := ⟨h26_⟩
 have n27_ : Aside0 (gb173 ≠ gb105) := ⟨h27_⟩
 have n28_ : Aside0 (gb113 ≠ gb173) := ⟨h28_⟩
 have n29_ : Aside0 (gb173 ≠ gb113) := ⟨h29_⟩
 have n30_ : Aside0 (gb119 ≠ gb173) := ⟨h30_⟩
 have n31_ : Aside0 (gb173 ≠ gb119) := ⟨h31_⟩
 have n32_ : Aside0 (gb125 ≠ gb173) := ⟨h32_⟩
 have n33_ : Aside0 (gb173 ≠ gb125) := ⟨h33_⟩
 have n34_ : Aside0 (gb131 ≠ gb173) := ⟨h34_⟩
 have n35_ : Aside0 (gb173 ≠ gb131) := ⟨h35_⟩
 have n36_ : Aside0 (gb137 ≠ gb173) := ⟨h36_⟩
 have n37_ : Aside0 (gb173 ≠ gb137) := ⟨h37_⟩
 have n38_ : Aside0 (gb147 ≠ gb173) := ⟨h38_⟩
 have n39_ : Aside0 (gb173 ≠ gb147) := ⟨h39_⟩
 have n40_ : Aside0 (gb153 ≠ gb173) := ⟨h40_⟩
 have n41_ : Aside0 (gb173 ≠ gb153) := ⟨h41_⟩
 have n42_ : Aside0 (gb159 ≠ gb173) := ⟨h42_⟩
 have n43_ : Aside0 (gb173 ≠ gb159) := ⟨h43_⟩
 have n44_ : Aside0 (Below w.heap.size w w127) := ⟨h44_⟩
 clear HO103 HO108; clear HO111 HO116; clear HO122 HO128; clear HO134 HO140; clear HO144 HO150; clear HO156 BK105; clear BK113 BK119; clear BK125 BK131; clear BK137 BK147; clear BK153 BK159 HB; clear h0_ h1_ h2_ h3_ h4_ h5_ h6_ h7_ h8_ h9_ h10_ h11_ h12_ h13_ h14_ h15_ h16_ h17_ h18_ h19_ h20_ h21_ h22_ h23_ h24_ h25_ h26_ h27_ h28_ h29_ h30_ h31_ h32_ h33_ h34_ h35_ h36_ h37_ h38_ h39_ h40_ h41_ h42_ h43_ h44_; have HO103 := n0_; have HO108 := n1_; have HO111 := n2_; have HO116 := n3_; have HO122 := n4_; have HO128 := n5_; have HO134 := n6_; have HO140 := n7_; have HO144 := n8_; have HO150 := n9_; have HO156 := n10_; have HO162 := n11_; have HO166 := n12_; have HO170 := n13_; have BK105 := n14_; have BK113 := n15_; have BK119 := n16_; have BK125 := n17_; have BK131 := n18_; have BK137 := n19_; have BK147 := n20_; have BK153 := n21_; have BK159 := n22_; have BK173 := n23_; have GW173 := n24_; have GE173 := n25_; have NB105_173 := n26_; have NB173_105 := n27_; have NB113_173 := n28_; have NB173_113 := n29_; have NB119_173 := n30_; have NB173_119 := n31_; have NB125_173 := n32_; have NB173_125 := n33_; have NB131_173 := n34_; have NB173_131 := n35_; have NB137_173 := n36_; have NB173_137 := n37_; have NB147_173 := n38_; have NB173_147 := n39_; have NB153_173 := n40_; have NB173_153 := n41_; have NB159_173 := n42_; have NB173_159 := n43_; have HB := n44_; clear n0_ n1_ n2_ n3_ n4_ n5_ n6_ n7_ n8_ n9_ n10_ n11_ n12_ n13_ n14_ n15_ n16_ n17_ n18_ n19_ n20_ n21_ n22_ n23_ n24_ n25_ n26_ n27_ n28_ n29_ n30_ n31_ n32_ n33_ n34_ n35_ n36_ n37_ n38_ n39_ n40_ n41_ n42_ n43_ n44_
 have hHeld : w127.cell? ⟨gb105, 0, none⟩ = some (.slice Ao36 t101.length co36) ∧ w127.cell? ⟨gb105, 1, none⟩ = some (.int .i64 t104) ∧ w127.cell? ⟨gb113, 0, none⟩ = some (.slice Ao42 t109.length co42) ∧ w127.cell? ⟨gb113, 1, none⟩ = some (.int .i64 t112) := hS_
 obtain ⟨Ao128, co128, eo128⟩ := Kd.R_slice HO170.out
 (first | subst eo128 | (injection eo128 with f1_ f2_ f3_; have f4_ := f1_.symm; have f5_ := f3_.symm; clear f1_ f2_ f3_; subst f4_; subst f5_))
 refine norm_ (a' := ?_) ?_ ?_; rotate_left
 ·simp only [putAll, Act.put, qa9, qb9, qc9]
  rfl
 refine one_ (i := 9) (N := none) q9_32 rfl rfl (one_of HT_.out (by kernel_rfl)) (by decide) (fun K hK => ?_)
 have hs129 : w127.cell? ⟨gb173, 0, none⟩ = some (.slice none 0 0) := (blk_cell BK173.out 0).trans rfl
 have hfs129 := blk_frozen BK173.out 0; have hns129_0 := NB105_173.out; have hns129_1 := NB113_173.out; have hns129_2 := NB119_173.out; have hns129_3 := NB125_173.out; have hns129_4 := NB131_173.out; have hns129_5 := NB137_173.out; have hns129_6 := NB147_173.out; have hns129_7 := NB153_173.out; have hns129_8 := NB159_173.out; have hms129_0 := NB173_105.out; have hms129_1 := NB173_113.out; have hms129_2 := NB173_119.out; have hms129_3 := NB173_125.out; have hms129_4 := NB173_131.out; have hms129_5 := NB173_137.out; have hms129_6 := NB173_147.out; have hms129_7 := NB173_153.out; have hms129_8 := NB173_159.out
 have hs130 : w127.cell? ⟨gb173, 1, none⟩ = some (.int .i64 0) := (blk_cell BK173.out 1).trans rfl
 have hfs130 := blk_frozen BK173.out 1; have hns130_0 := NB105_173.out; have hns130_1 := NB113_173.out; have hns130_2 := NB119_173.out; have hns130_3 := NB125_173.out; have hns130_4 := NB131_173.out; have hns130_5 := NB137_173.out; have hns130_6 := NB147_173.out; have hns130_7 := NB153_173.out; have hns130_8 := NB159_173.out; have hms130_0 := NB173_105.out; have hms130_1 := NB173_113.out; have hms130_2 := NB173_119.out; have hms130_3 := NB173_125.out; have hms130_4 := NB173_131.out; have hms130_5 := NB173_137.out; have hms130_6 := NB173_147.out; have hms130_7 := NB173_153.out; have hms130_8 := NB173_159.out
 refine skip_ (w1 := ?_) (by rfl) rfl ?_ ?_; rotate_left
 ·go_simp
  rfl
 refine hK.out _ _ ⟨((cell_far (p := ⟨gb173, _, none⟩) NB105_173.out _).trans (((cell_far (p := ⟨gb173, _, none⟩) NB105_173.out _).trans (hHeld.1)))), ((cell_far (p := ⟨gb173, _, none⟩) NB105_173.out _).trans (((cell_far (p := ⟨gb173, _, none⟩) NB105_173.out _).trans (hHeld.2.1)))), ((cell_far (p := ⟨gb173, _, none⟩) NB113_173.out _).trans (((cell_far (p := ⟨gb173, _, none⟩) NB113_173.out _).trans (hHeld.2.2.1)))), ((cell_far (p := ⟨gb173, _, none⟩) NB113_173.out _).trans (((cell_far (p := ⟨gb173, _, none⟩) NB113_173.out _).trans (hHeld.2.2.2))))⟩ (fun hHeld => ?_)
 clear hK K
 refine pure_ (i := 10) (N := some 20) (v := ?_) (a' := ?_) q9_33 rfl rfl (any_of HT_.out (by kernel_rfl)) (fun _ _ _ h => h) (Or.inl ⟨by rfl, ?_⟩) ?_ ?_; rotate_left
 ·intro w'
  go_simp; with_reducible rfl
 rotate_left
 ·simp only [Act.put, qa9, qb9, qc9, i64_w, i32_w]
  rfl
 refine done_ (done_of HT_.out (by kernel_rfl)) ?_
 try go_wp2
 have n0_ : Aside0 (Kd.R (Kd.int .i64) 3 ((w127.setCell ⟨gb173, 0, none⟩ (.slice Ao128 t168.length co128)).setCell ⟨gb173, 1, none⟩ (.int .i64 t171)) w.heap.size (fun k_ => NS k_ Ao42 t109 co42 ∧ NS k_ Ao47 t114 co47 ∧ NS k_ Ao55 t120 co55 ∧ NS k_ Ao64 t126 co64 ∧ NS k_ Ao74 t132 co74 ∧ NB k_ (v139) ∧ NS k_ Ao88 t142 co88 ∧ NS k_ Ao95 t148 co95 ∧ NS k_ Ao109 t154 co109 ∧ NB k_ (v161) ∧ NB k_ (v165) ∧ NS k_ Ao128 t168 co128) (.slice Ao36 t101.length co36) t101) := ⟨by (with_reducible repeat (first | apply Kd.R_alloc | apply Kd.R_drewN | apply Kd.R_drew)); exact rS HO103.out BK173.out⟩
 have n1_ : Aside0 (Kd.R (Kd.int .u8) 5 ((w127.setCell ⟨gb173, 0, none⟩ (.slice Ao128 t168.length co128)).setCell ⟨gb173, 1, none⟩ (.int .i64 t171)) w.heap.size (fun _ => True) (.slice Ao39 t106.length co39) t106) := ⟨by (with_reducible repeat (first | apply Kd.R_alloc | apply Kd.R_drewN | apply Kd.R_drew)); exact rS HO108.out BK173.out⟩
 have n2_ : Aside0 (Kd.R (Kd.int .i64) 3 ((w127.setCell ⟨gb173, 0, none⟩ (.slice Ao128 t168.length co128)).setCell ⟨gb173, 1, none⟩ (.int .i64 t171)) w.heap.size (fun k_ => NS k_ Ao36 t101 co36 ∧ NS k_ Ao47 t114 co47 ∧ NS k_ Ao55 t120 co55 ∧ NS k_ Ao64 t126 co64 ∧ NS k_ Ao74 t132 co74 ∧ NB k_ (v139) ∧ NS k_ Ao88 t142 co88 ∧ NS k_ Ao95 t148 co95 ∧ NS k_ Ao109 t154 co109 ∧ NB k_ (v161) ∧ NB k_ (v165) ∧ NS k_ Ao128 t168 co128) (.slice Ao42 t109.length co42) t109) := ⟨by (with_reducible repeat (first | apply Kd.R_alloc | apply Kd.R_drewN | apply Kd.R_drew)); exact rS HO111.out BK173.out⟩
 have n3_ : Aside0 (Kd.R (Kd.int .i64) 3 ((w127.setCell ⟨gb173, 0, none⟩ (.slice Ao128 t168.length co128)).setCell ⟨gb173, 1, none⟩ (.int .i64 t171)) w.heap.size (fun k_ => NS k_ Ao36 t101 co36 ∧ NS k_ Ao42 t109 co42 ∧ NS k_ Ao55 t120 co55 ∧ NS k_ Ao64 t126 co64 ∧ NS k_ Ao74 t132 co74 ∧ NB k_ (v139) ∧ NS k_ Ao88 t142 co88 ∧ NS k_ Ao95 t148 co95 ∧ NS k_ Ao109 t154 co109 ∧ NB k_ (v161) ∧ NB k_ (v165) ∧ NS k_ Ao128 t168 co128) (.slice Ao47 t114.length co47) t114) := ⟨by (with_reducible repeat (first | apply Kd.R_alloc | apply Kd.R_drewN | apply Kd.R_drew)); exact rS HO116.out BK173.out⟩
 have n4_ : Aside0 (Kd.R (Kd.int .i64) 3 ((w127.setCell ⟨gb173, 0, none⟩ (.slice Ao128 t168.length co128)).setCell ⟨gb173, 1, none⟩ (.int .i64 t171)) w.heap.size (fun k_ => NS k_ Ao36 t101 co36 ∧ NS k_ Ao42 t109 co42 ∧ NS k_ Ao47 t114 co47 ∧ NS k_ Ao64 t126 co64 ∧ NS k_ Ao74 t132 co74 ∧ NB k_ (v139) ∧ NS k_ Ao88 t142 co88 ∧ NS k_ Ao95 t148 co95 ∧ NS k_ Ao109 t154 co109 ∧ NB k_ (v161) ∧ NB k_ (v165) ∧ NS k_ Ao128 t168 co128) (.slice Ao55 t120.length co55) t120) := ⟨by (with_reducible repeat (first | apply Kd.R_alloc | apply Kd.R_drewN | apply Kd.R_drew)); exact rS HO122.out BK173.out⟩
 have n5_ : Aside0 (Kd.R (Kd.int .i64) 3 ((w127.setCell ⟨gb173, 0, none⟩ (.slice Ao128 t168.length co128)).setCell ⟨gb173, 1, none⟩ (.int .i64 t171)) w.heap.size (fun k_ => NS k_ Ao36 t101 co36 ∧ NS k_ Ao42 t109 co42 ∧ NS k_ Ao47 t114 co47 ∧ NS k_ Ao55 t120 co55 ∧ NS k_ Ao74 t132 co74 ∧ NB k_ (v139) ∧ NS k_ Ao88 t142 co88 ∧ NS k_ Ao95 t148 co95 ∧ NS k_ Ao109 t154 co109 ∧ NB k_ (v161) ∧ NB k_ (v165) ∧ NS k_ Ao128 t168 co128) (.slice Ao64 t126.length co64) t126) := ⟨by (with_reducible repeat (first | apply Kd.R_alloc | apply Kd.R_drewN | apply Kd.R_drew)); exact rS HO128.out BK173.out⟩
 have n6_ : Aside0 (Kd.R (Kd.int .i64) 3 ((w127.setCell ⟨gb173, 0, none⟩ (.slice Ao128 t168.length co128)).setCell ⟨gb173, 1, none⟩ (.int .i64 t171)) w.heap.size (fun k_ => NS k_ Ao36 t101 co36 ∧ NS k_ Ao42 t109 co42 ∧ NS k_ Ao47 t114 co47 ∧ NS k_ Ao55 t120 co55 ∧ NS k_ Ao64 t126 co64 ∧ NB k_ (v139) ∧ NS k_ Ao88 t142 co88 ∧ NS k_ Ao95 t148 co95 ∧ NS k_ Ao109 t154 co109 ∧ NB k_ (v161) ∧ NB k_ (v165) ∧ NS k_ Ao128 t168 co128) (.slice Ao74 t132.length co74) t132) := ⟨by (with_reducible repeat (first | apply Kd.R_alloc | apply Kd.R_drewN | apply Kd.R_drew)); exact rS HO134.out BK173.out⟩
 have n7_ : Aside0 (Kd.R (Kd.int .i64) 3 ((w127.setCell ⟨gb173, 0, none⟩ (.slice Ao128 t168.length co128)).setCell ⟨gb173, 1, none⟩ (.int .i64 t171)) w.heap.size (fun k_ => NS k_ Ao36 t101 co36 ∧ NS k_ Ao42 t109 co42 ∧ NS k_ Ao47 t114 co47 ∧ NS k_ Ao55 t120 co55 ∧ NS k_ Ao64 t126 co64 ∧ NS k_ Ao74 t132 co74 ∧ NS k_ Ao88 t142 co88 ∧ NS k_ Ao95 t148 co95 ∧ NS k_ Ao109 t154 co109 ∧ NB k_ (v161) ∧ NB k_ (v165) ∧ NS k_ Ao128 t168 co128) v139 t138) := ⟨by (with_reducible repeat (first | apply Kd.R_alloc | apply Kd.R_drewN | apply Kd.R_drew)); exact rS HO140.out BK173.out⟩
 have n8_ : Aside0 (Kd.R (Kd.int .i64) 3 ((w127.setCell ⟨gb173, 0, none⟩ (.slice Ao128 t168.length co128)).setCell ⟨gb173, 1, none⟩ (.int .i64 t171)) w.heap.size (fun k_ => NS k_ Ao36 t101 co36 ∧ NS k_ Ao42 t109 co42 ∧ NS k_ Ao47 t114 co47 ∧ NS k_ Ao55 t120 co55 ∧ NS k_ Ao64 t126 co64 ∧ NS k_ Ao74 t132 co74 ∧ NB k_ (v139) ∧ NS k_ Ao95 t148 co95 ∧ NS k_ Ao109 t154 co109 ∧ NB k_ (v161) ∧ NB k_ (v165) ∧ NS k_ Ao128 t168 co128) (.slice Ao88 t142.length co88) t142) := ⟨by (with_reducible repeat (first | apply Kd.R_alloc | apply Kd.R_drewN | apply Kd.R_drew)); exact rS HO144.out BK173.out⟩
 have n9_ : Aside0 (Kd.R (Kd.int .i64) 3 ((w127.setCell ⟨gb173, 0, none⟩ (.slice Ao128 t168.length co128)).setCell ⟨gb173, 1, none⟩ (.int .i64 t171)) w.heap.size (fun k_ => NS k_ Ao36 t101 co36 ∧ NS k_ Ao42 t109 co42 ∧ NS k_ Ao47 t114 co47 ∧ NS k_ Ao55 t120 co55 ∧ NS k_ Ao64 t126 co64 ∧ NS k_ Ao74 t132 co74 ∧ NB k_ (v139) ∧ NS k_ Ao88 t142 co88 ∧ NS k_ Ao109 t154 co109 ∧ NB k_ (v161) ∧ NB k_ (v165) ∧ NS k_ Ao128 t168 co128) (.slice Ao95 t148.length co95) t148) := ⟨by (with_reducible repeat (first | apply Kd.R_alloc | apply Kd.R_drewN | apply Kd.R_drew)); exact rS HO150.out BK173.out⟩
 have n10_ : Aside0 (Kd.R (Kd.int .i64) 3 ((w127.setCell ⟨gb173, 0, none⟩ (.slice Ao128 t168.length co128)).setCell ⟨gb173, 1, none⟩ (.int .i64 t171)) w.heap.size (fun k_ => NS k_ Ao36 t101 co36 ∧ NS k_ Ao42 t109 co42 ∧ NS k_ Ao47 t114 co47 ∧ NS k_ Ao55 t120 co55 ∧ NS k_ Ao64 t126 co64 ∧ NS k_ Ao74 t132 co74 ∧ NB k_ (v139) ∧ NS k_ Ao88 t142 co88 ∧ NS k_ Ao95 t148 co95 ∧ NB k_ (v161) ∧ NB k_ (v165) ∧ NS k_ Ao128 t168 co128) (.slice Ao109 t154.length co109) t154) := ⟨by (with_reducible repeat (first | apply Kd.R_alloc | apply Kd.R_drewN | apply Kd.R_drew)); exact rS HO156.out BK173.out⟩
 have n11_ : Aside0 (Kd.R (Kd.int .i64) 3 ((w127.setCell ⟨gb173, 0, none⟩ (.slice Ao128 t168.length co128)).setCell ⟨gb173, 1, none⟩ (.int .i64 t171)) w.heap.size (fun k_ => NS k_ Ao36 t101 co36 ∧ NS k_ Ao42 t109 co42 ∧ NS k_ Ao47 t114 co47 ∧ NS k_ Ao55 t120 co55 ∧ NS k_ Ao64 t126 co64 ∧ NS k_ Ao74 t132 co74 ∧ NB k_ (v139) ∧ NS k_ Ao88 t142 co88 ∧ NS k_ Ao95 t148 co95 ∧ NS k_ Ao109 t154 co109 ∧ NB k_ (v165) ∧ NS k_ Ao128 t168 co128) v161 t160) := ⟨by (with_reducible repeat (first | apply Kd.R_alloc | apply Kd.R_drewN | apply Kd.R_drew)); exact rS HO162.out BK173.out⟩
 have n12_ : Aside0 (Kd.R (Kd.int .i64) 3 ((w127.setCell ⟨gb173, 0, none⟩ (.slice Ao128 t168.length co128)).setCell ⟨gb173, 1, none⟩ (.int .i64 t171)) w.heap.size (fun k_ => NS k_ Ao36 t101 co36 ∧ NS k_ Ao42 t109 co42 ∧ NS k_ Ao47 t114 co47 ∧ NS k_ Ao55 t120 co55 ∧ NS k_ Ao64 t126 co64 ∧ NS k_ Ao74 t132 co74 ∧ NB k_ (v139) ∧ NS k_ Ao88 t142 co88 ∧ NS k_ Ao95 t148 co95 ∧ NS k_ Ao109 t154 co109 ∧ NB k_ (v161) ∧ NS k_ Ao128 t168 co128) v165 t164) := ⟨by (with_reducible repeat (first | apply Kd.R_alloc | apply Kd.R_drewN | apply Kd.R_drew)); exact rS HO166.out BK173.out⟩
 have n13_ : Aside0 (Kd.R (Kd.int .i64) 3 ((w127.setCell ⟨gb173, 0, none⟩ (.slice Ao128 t168.length co128)).setCell ⟨gb173, 1, none⟩ (.int .i64 t171)) w.heap.size (fun k_ => NS k_ Ao36 t101 co36 ∧ NS k_ Ao42 t109 co42 ∧ NS k_ Ao47 t114 co47 ∧ NS k_ Ao55 t120 co55 ∧ NS k_ Ao64 t126 co64 ∧ NS k_ Ao74 t132 co74 ∧ NB k_ (v139) ∧ NS k_ Ao88 t142 co88 ∧ NS k_ Ao95 t148 co95 ∧ NS k_ Ao109 t154 co109 ∧ NB k_ (v161) ∧ NB k_ (v165)) (.slice Ao128 t168.length co128) t168) := ⟨by (with_reducible repeat (first | apply Kd.R_alloc | apply Kd.R_drewN | apply Kd.R_drew)); exact rS HO170.out BK173.out⟩
 have n14_ : Aside0 (((w127.setCell ⟨gb173, 0, none⟩ (.slice Ao128 t168.length co128)).setCell ⟨gb173, 1, none⟩ (.int .i64 t171)).heap[gb105]? = some (.cells #[.slice Ao36 t101.length co36, .int .i64 t104] 27 (0, 0))) := ⟨bG BK105.out NB105_173.out⟩
 have n15_ : Aside0 (((w127.setCell ⟨gb173, 0, none⟩ (.slice Ao128 t168.length co128)).setCell ⟨gb173, 1, none⟩ (.int .i64 t171)).heap[gb113]? = some (.cells #[.slice Ao42 t109.length co42, .int .i64 t112] 27 (0, 0))) := ⟨bG BK113.out NB113_173.out⟩
 have n16_ : Aside0 (((w127.setCell ⟨gb173, 0, none⟩ (.slice Ao128 t168.length co128)).setCell ⟨gb173, 1, none⟩ (.int .i64 t171)).heap[gb119]? = some (.cells #[.slice Ao47 t114.length co47, .int .i64 t117] 27 (0, 0))) := ⟨bG BK119.out NB119_173.out⟩
 have n17_ : Aside0 (((w127.setCell ⟨gb173, 0, none⟩ (.slice Ao128 t168.length co128)).setCell ⟨gb173, 1, none⟩ (.int .i64 t171)).heap[gb125]? = some (.cells #[.slice Ao55 t120.length co55, .int .i64 t123] 27 (0, 0))) := ⟨bG BK125.out NB125_173.out⟩
 have n18_ : Aside0 (((w127.setCell ⟨gb173, 0, none⟩ (.slice Ao128 t168.length co128)).setCell ⟨gb173, 1, none⟩ (.int .i64 t171)).heap[gb131]? = some (.cells #[.slice Ao64 t126.length co64, .int .i64 t129] 27 (0, 0))) := ⟨bG BK131.out NB131_173.out⟩
 have n19_ : Aside0 (((w127.setCell ⟨gb173, 0, none⟩ (.slice Ao128 t168.length co128)).setCell ⟨gb173, 1, none⟩ (.int .i64 t171)).heap[gb137]? = some (.cells #[.slice Ao74 t132.length co74, .int .i64 t135] 27 (0, 0))) := ⟨bG BK137.out NB137_173.out⟩
 have n20_ : Aside0 (((w127.setCell ⟨gb173, 0, none⟩ (.slice Ao128 t168.length co128)).setCell ⟨gb173, 1, none⟩ (.int .i64 t171)).heap[gb147]? = some (.cells #[.slice Ao88 t142.length co88, .int .i64 t145] 27 (0, 0))) := ⟨bG BK147.out NB147_173.out⟩
 have n21_ : Aside0 (((w127.setCell ⟨gb173, 0, none⟩ (.slice Ao128 t168.length co128)).setCell ⟨gb173, 1, none⟩ (.int .i64 t171)).heap[gb153]? = some (.cells #[.slice Ao95 t148.length co95, .int .i64 t151] 27 (0, 0))) := ⟨bG BK153.out NB153_173.out⟩
 have n22_ : Aside0 (((w127.setCell ⟨gb173, 0, none⟩ (.slice Ao128 t168.length co128)).setCell ⟨gb173, 1, none⟩ (.int .i64 t171)).heap[gb159]? = some (.cells #[.slice Ao109 t154.length co109, .int .i64 t157] 27 (0, 0))) := ⟨bG BK159.out NB159_173.out⟩
 have n23_ : Aside0 (((w127.setCell ⟨gb173, 0, none⟩ (.slice Ao128 t168.length co128)).setCell ⟨gb173, 1, none⟩ (.int .i64 t171)).heap[gb173]? = some (.cells #[.slice Ao128 t168.length co128, .int .i64 t171] 27 (0, 0))) := ⟨by (with_reducible repeat (first | refine blk_drewN ?_ _ | refine blk_drew ?_ | refine blk_alloc ?_ _)); refine blk_put (cs := #[.slice Ao128 t168.length co128, .int .i64 0]) ?_ 1 _ rfl; (with_reducible repeat (first | refine blk_drewN ?_ _ | refine blk_drew ?_ | refine blk_alloc ?_ _)); refine blk_put (cs := #[.slice none 0 0, .int .i64 0]) ?_ 0 _ rfl; (with_reducible repeat (first | refine blk_drewN ?_ _ | refine blk_drew ?_ | refine blk_alloc ?_ _)); exact BK173.out⟩
 have n24_ : Aside0 (Below w.heap.size w ((w127.setCell ⟨gb173, 0, none⟩ (.slice Ao128 t168.length co128)).setCell ⟨gb173, 1, none⟩ (.int .i64 t171))) := ⟨bB HB.out⟩
 (try clear HO103); (try clear HO108); (try clear HO111); (try clear HO116); (try clear HO122); (try clear HO128); (try clear HO134); (try clear HO140); (try clear HO144); (try clear HO150); (try clear HO156); (try clear HO162); (try clear HO166); (try clear HO170); (try clear BK105); (try clear BK113); (try clear BK119); (try clear BK125); (try clear BK131); (try clear BK137); (try clear BK147); (try clear BK153); (try clear BK159); (try clear BK173); (try clear HB)
 generalize ((w127.setCell ⟨gb173, 0, none⟩ (.slice Ao128 t168.length co128)).setCell ⟨gb173, 1, none⟩ (.int .i64 t171)) = w131 at n0_ n1_ n2_ n3_ n4_ n5_ n6_ n7_ n8_ n9_ n10_ n11_ n12_ n13_ n14_ n15_ n16_ n17_ n18_ n19_ n20_ n21_ n22_ n23_ n24_ ⊢
 have HO103 := n0_; have HO108 := n1_; have HO111 := n2_; have HO116 := n3_; have HO122 := n4_; have HO128 := n5_; have HO134 := n6_; have HO140 := n7_; have HO144 := n8_; have HO150 := n9_; have HO156 := n10_; have HO162 := n11_; have HO166 := n12_; have HO170 := n13_; have BK105 := n14_; have BK113 := n15_; have BK119 := n16_; have BK125 := n17_; have BK131 := n18_; have BK137 := n19_; have BK147 := n20_; have BK153 := n21_; have BK159 := n22_; have BK173 := n23_; have HB := n24_; clear n0_ n1_ n2_ n3_ n4_ n5_ n6_ n7_ n8_ n9_ n10_ n11_ n12_ n13_ n14_ n15_ n16_ n17_ n18_ n19_ n20_ n21_ n22_ n23_ n24_; replace HO103 := am (Kd.R_drew HO103.out); replace HO108 := am (Kd.R_drew HO108.out); replace HO111 := am (Kd.R_drew HO111.out); replace HO116 := am (Kd.R_drew HO116.out); replace HO122 := am (Kd.R_drew HO122.out); replace HO128 := am (Kd.R_drew HO128.out); replace HO134 := am (Kd.R_drew HO134.out); replace HO140 := am (Kd.R_drew HO140.out); replace HO144 := am (Kd.R_drew HO144.out); replace HO150 := am (Kd.R_drew HO150.out); replace HO156 := am (Kd.R_drew HO156.out); replace HO162 := am (Kd.R_drew HO162.out); replace HO166 := am (Kd.R_drew HO166.out); replace HO170 := am (Kd.R_drew HO170.out); replace BK105 := am (blk_drew BK105.out); replace BK113 := am (blk_drew BK113.out); replace BK119 := am (blk_drew BK119.out); replace BK125 := am (blk_drew BK125.out); replace BK131 := am (blk_drew BK131.out); replace BK137 := am (blk_drew BK137.out); replace BK147 := am (blk_drew BK147.out); replace BK153 := am (blk_drew BK153.out); replace BK159 := am (blk_drew BK159.out); replace BK173 := am (blk_drew BK173.out); replace HB := am (below_drew1 HB.out)
 cases t124 with
 | true =>
  have H := HL.out; clear HL; rw [if_pos rfl] at H
  obtain ⟨⟨t178, t181⟩, A320, H⟩ := Option.bind_eq_some_iff.mp H
  obtain ⟨t182, A330, H⟩ := Option.bind_eq_some_iff.mp H
  have A32 := am A320; have A33 : Aside0 (laws_floats.f k t168 t171 t178 t181 = some t182) := am A330; clear A320 A330
  obtain rfl := Option.some.inj H
  clear H
  refine start_ (n := 53) (S := fun w' => w'.cell? ⟨gb125, 0, none⟩ = some (.slice Ao55 t120.length co55) ∧ w'.cell? ⟨gb125, 1, none⟩ = some (.int .i64 t123) ∧ w'.cell? ⟨gb131, 0, none⟩ = some (.slice Ao64 t126.length co64) ∧ w'.cell? ⟨gb131, 1, none⟩ = some (.int .i64 t129) ∧ w'.cell? ⟨gb137, 0, none⟩ = some (.slice Ao74 t132.length co74) ∧ w'.cell? ⟨gb137, 1, none⟩ = some (.int .i64 t135) ∧ w'.cell? ⟨gb147, 0, none⟩ = some (.slice Ao88 t142.length co88) ∧ w'.cell? ⟨gb147, 1, none⟩ = some (.int .i64 t145) ∧ w'.cell? ⟨gb153, 0, none⟩ = some (.slice Ao95 t148.length co95) ∧ w'.cell? ⟨gb153, 1, none⟩ = some (.int .i64 t151) ∧ w'.cell? ⟨gb119, 0, none⟩ = some (.slice Ao47 t114.length co47) ∧ w'.cell? ⟨gb119, 1, none⟩ = some (.int .i64 t117) ∧ w'.cell? ⟨gb159, 0, none⟩ = some (.slice Ao109 t154.length co109) ∧ w'.cell? ⟨gb159, 1, none⟩ = some (.int .i64 t157) ∧ w'.cell? ⟨gb105, 0, none⟩ = some (.slice Ao36 t101.length co36) ∧ w'.cell? ⟨gb105, 1, none⟩ = some (.int .i64 t104) ∧ w'.cell? ⟨gb173, 0, none⟩ = some (.slice Ao128 t168.length co128) ∧ w'.cell? ⟨gb173, 1, none⟩ = some (.int .i64 t171)) (ds := []) q9_34 (by kernel_rfl) rfl rfl ⟨(blk_cell BK125.out 0).trans rfl, (blk_cell BK125.out 1).trans rfl, (blk_cell BK131.out 0).trans rfl, (blk_cell BK131.out 1).trans rfl, (blk_cell BK137.out 0).trans rfl, (blk_cell BK137.out 1).trans rfl, (blk_cell BK147.out 0).trans rfl, (blk_cell BK147.out 1).trans rfl, (blk_cell BK153.out 0).trans rfl, (blk_cell BK153.out 1).trans rfl, (blk_cell BK119.out 0).trans rfl, (blk_cell BK119.out 1).trans rfl, (blk_cell BK159.out 0).trans rfl, (blk_cell BK159.out 1).trans rfl, (blk_cell BK105.out 0).trans rfl, (blk_cell BK105.out 1).trans rfl, (blk_cell BK173.out 0).trans rfl, (blk_cell BK173.out 1).trans rfl⟩ (fun hHeld => ?_); refine with_tabW laws_FnFloatSums.tab13 laws_FnFloatSums.bits13 (fun HT_ HW_ => ?_)
  generalize w131.drew = w132 at HO103 HO108 HO111 HO116 HO122 HO128 HO134 HO140 HO144 HO150 HO156 HO162 HO166 HO170 BK105 BK113 BK119 BK125 BK131 BK137 BK147 BK153 BK159 BK173 HB hHeld ⊢
  refine pure_ (i := 0) (N := some 78) (v := ?_) (a' := ?_) q9_35 rfl rfl (any_of HT_.out (by kernel_rfl)) (fun _ _ _ h => h) (Or.inl ⟨by rfl, ?_⟩) ?_ ?_; rotate_left
  ·intro w'
   go_simp; with_reducible rfl
  rotate_left
  ·simp only [Act.put, qa9, qb9, qc9, i64_w, i32_w]
   rfl
  refine pure_ (i := 1) (N := some 79) (v := ?_) (a' := ?_) q9_36 rfl rfl (any_of HT_.out (by kernel_rfl)) (fun _ _ _ h => h) (Or.inl ⟨by rfl, ?_⟩) ?_ ?_; rotate_left
  ·intro w'
   go_simp; with_reducible rfl
  rotate_left
  ·simp only [Act.put, qa9, qb9, qc9, i64_w, i32_w]
   rfl
  refine pure_ (i := 2) (N := some 80) (v := ?_) (a' := ?_) q9_37 rfl rfl (any_of HT_.out (by kernel_rfl)) (fun _ _ _ h => h) (Or.inl ⟨by rfl, ?_⟩) ?_ ?_; rotate_left
  ·intro w'
   go_simp; with_reducible rfl
  rotate_left
  ·simp only [Act.put, qa9, qb9, qc9, i64_w, i32_w]
   rfl
  refine pure_ (i := 3) (N := some 81) (v := ?_) (a' := ?_) q9_38 rfl rfl (any_of HT_.out (by kernel_rfl)) (fun _ _ _ h => h) (Or.inl ⟨by rfl, ?_⟩) ?_ ?_; rotate_left
  ·intro w'
   go_simp; with_reducible rfl
  rotate_left
  ·simp only [Act.put, qa9, qb9, qc9, i64_w, i32_w]
   rfl
  refine pure_ (i := 4) (N := some 82) (v := ?_) (a' := ?_) q9_39 rfl rfl (any_of HT_.out (by kernel_rfl)) (fun _ _ _ h => h) (Or.inl ⟨by rfl, ?_⟩) ?_ ?_; rotate_left
  ·intro w'
   go_simp; with_reducible rfl
  rotate_left
  ·simp only [Act.put, qa9, qb9, qc9, i64_w, i32_w]
   rfl
  refine pure_ (i := 5) (N := some 83) (v := ?_) (a' := ?_) q9_40 rfl rfl (any_of HT_.out (by kernel_rfl)) (fun _ _ _ h => h) (Or.inl ⟨by rfl, ?_⟩) ?_ ?_; rotate_left
  ·intro w'
   go_simp; with_reducible rfl
  rotate_left
  ·simp only [Act.put, qa9, qb9, qc9, i64_w, i32_w]
   rfl
  refine pure_ (i := 6) (N := some 84) (v := ?_) (a' := ?_) q9_41 rfl rfl (any_of HT_.out (by kernel_rfl)) (fun _ _ _ h => h) (Or.inl ⟨by rfl, ?_⟩) ?_ ?_; rotate_left
  ·intro w'
   go_simp; with_reducible rfl
  rotate_left
  ·simp only [Act.put, qa9, qb9, qc9, i64_w, i32_w]
   rfl
  refine pure_ (i := 7) (N := some 85) (v := ?_) (a' := ?_) q9_42 rfl rfl (any_of HT_.out (by kernel_rfl)) (fun _ _ _ h => h) (Or.inl ⟨by rfl, ?_⟩) ?_ ?_; rotate_left
  ·intro w'
   go_simp; with_reducible rfl
  rotate_left
  ·simp only [Act.put, qa9, qb9, qc9, i64_w, i32_w]
   rfl
  refine pure_ (i := 8) (N := some 86) (v := ?_) (a' := ?_) q9_43 rfl rfl (any_of HT_.out (by kernel_rfl)) (fun _ _ _ h => h) (Or.inl ⟨by rfl, ?_⟩) ?_ ?_; rotate_left
  ·intro w'
   go_simp; with_reducible rfl
  rotate_left
  ·simp only [Act.put, qa9, qb9, qc9, i64_w, i32_w]
   rfl
  refine pure_ (i := 9) (N := some 87) (v := ?_) (a' := ?_) q9_44 rfl rfl (any_of HT_.out (by kernel_rfl)) (fun _ _ _ h => h) (Or.inl ⟨by rfl, ?_⟩) ?_ ?_; rotate_left
  ·intro w'
   go_simp; with_reducible rfl
  rotate_left
  ·simp only [Act.put, qa9, qb9, qc9, i64_w, i32_w]
   rfl
  refine pure_ (i := 10) (N := some 88) (v := ?_) (a' := ?_) q9_45 rfl rfl (any_of HT_.out (by kernel_rfl)) (fun _ _ _ h => h) (Or.inl ⟨by rfl, ?_⟩) ?_ ?_; rotate_left
  ·intro w'
   go_simp; with_reducible rfl
  rotate_left
  ·simp only [Act.put, qa9, qb9, qc9, i64_w, i32_w]
   rfl
  refine pure_ (i := 11) (N := some 89) (v := ?_) (a' := ?_) q9_46 rfl rfl (any_of HT_.out (by kernel_rfl)) (fun _ _ _ h => h) (Or.inl ⟨by rfl, ?_⟩) ?_ ?_; rotate_left
  ·intro w'
   go_simp; with_reducible rfl
  rotate_left
  ·simp only [Act.put, qa9, qb9, qc9, i64_w, i32_w]
   rfl
  refine pure_ (i := 12) (N := some 90) (v := ?_) (a' := ?_) q9_47 rfl rfl (any_of HT_.out (by kernel_rfl)) (fun _ _ _ h => h) (Or.inl ⟨by rfl, ?_⟩) ?_ ?_; rotate_left
  ·intro w'
   go_simp; with_reducible rfl
  rotate_left
  ·simp only [Act.put, qa9, qb9, qc9, i64_w, i32_w]
   rfl
  refine pure_ (i := 13) (N := some 91) (v := ?_) (a' := ?_) q9_48 rfl rfl (any_of HT_.out (by kernel_rfl)) (fun _ _ _ h => h) (Or.inl ⟨by rfl, ?_⟩) ?_ ?_; rotate_left
  ·intro w'
   go_simp; with_reducible rfl
  rotate_left
  ·simp only [Act.put, qa9, qb9, qc9, i64_w, i32_w]
   rfl
  refine pure_ (i := 14) (N := some 92) (v := ?_) (a' := ?_) q9_49 rfl rfl (any_of HT_.out (by kernel_rfl)) (fun _ _ _ h => h) (Or.inl ⟨by rfl, ?_⟩) ?_ ?_; rotate_left
  ·intro w'
   go_simp; with_reducible rfl
  rotate_left
  ·simp only [Act.put, qa9, qb9, qc9, i64_w, i32_w]
   rfl
  refine pure_ (i := 15) (N := some 93) (v := ?_) (a' := ?_) q9_50 rfl rfl (any_of HT_.out (by kernel_rfl)) (fun _ _ _ h => h) (Or.inl ⟨by rfl, ?_⟩) ?_ ?_; rotate_left
  ·intro w'
   go_simp; with_reducible rfl
  rotate_left
  ·simp only [Act.put, qa9, qb9, qc9, i64_w, i32_w]
   rfl
  refine pure_ (i := 16) (N := some 94) (v := ?_) (a' := ?_) q9_51 rfl rfl (any_of HT_.out (by kernel_rfl)) (fun _ _ _ h => h) (Or.inl ⟨by rfl, ?_⟩) ?_ ?_; rotate_left
  ·intro w'
   go_simp; with_reducible rfl
  rotate_left
  ·simp only [Act.put, qa9, qb9, qc9, i64_w, i32_w]
   rfl
  refine pure_ (i := 17) (N := some 95) (v := ?_) (a' := ?_) q9_52 rfl rfl (any_of HT_.out (by kernel_rfl)) (fun _ _ _ h => h) (Or.inl ⟨by rfl, ?_⟩) ?_ ?_; rotate_left
  ·intro w'
   go_simp; with_reducible rfl
  rotate_left
  ·simp only [Act.put, qa9, qb9, qc9, i64_w, i32_w]
   rfl
  refine pure_ (i := 18) (N := some 96) (v := ?_) (a' := ?_) q9_53 rfl rfl (any_of HT_.out (by kernel_rfl)) (fun _ _ _ h => h) (Or.inl ⟨by rfl, ?_⟩) ?_ ?_; rotate_left
  ·intro w'
   go_simp; with_reducible rfl
  rotate_left
  ·simp only [Act.put, qa9, qb9, qc9, i64_w, i32_w]
   rfl
  refine pure_ (i := 19) (N := some 97) (v := ?_) (a' := ?_) q9_54 rfl rfl (any_of HT_.out (by kernel_rfl)) (fun _ _ _ h => h) (Or.inl ⟨by rfl, ?_⟩) ?_ ?_; rotate_left
  ·intro w'
   go_simp; with_reducible rfl
  rotate_left
  ·simp only [Act.put, qa9, qb9, qc9, i64_w, i32_w]
   rfl
  refine pure_ (i := 20) (N := some 98) (v := ?_) (a' := ?_) q9_55 rfl rfl (any_of HT_.out (by kernel_rfl)) (fun _ _ _ h => h) (Or.inl ⟨by rfl, ?_⟩) ?_ ?_; rotate_left
  ·intro w'
   go_simp; with_reducible rfl
  rotate_left
  ·simp only [Act.put, qa9, qb9, qc9, i64_w, i32_w]
   rfl
  refine pure_ (i := 21) (N := some 99) (v := ?_) (a' := ?_) q9_56 rfl rfl (any_of HT_.out (by kernel_rfl)) (fun _ _ _ h => h) (Or.inl ⟨by rfl, ?_⟩) ?_ ?_; rotate_left
  ·intro w'
   go_simp; with_reducible rfl
  rotate_left
  ·simp only [Act.put, qa9, qb9, qc9, i64_w, i32_w]
   rfl
  refine pure_ (i := 22) (N := some 100) (v := ?_) (a' := ?_) q9_57 rfl rfl (any_of HT_.out (by kernel_rfl)) (fun _ _ _ h => h) (Or.inl ⟨by rfl, ?_⟩) ?_ ?_; rotate_left
  ·intro w'
   go_simp; with_reducible rfl
  rotate_left
  ·simp only [Act.put, qa9, qb9, qc9, i64_w, i32_w]
   rfl
  refine take_ (i := 23) (N := some 101) (v := ?_) (a' := ?_) q9_58 rfl rfl (take_ofW HT_.out HW_.out (by kernel_rfl)) (fun _ _ _ h => h) (Or.inl ⟨by rfl, ?_⟩) hHeld ?_ ?_; rotate_left
  ·rintro w' ⟨s0, s1, s2, s3, s4, s5, s6, s7, s8, s9, s10, s11, s12, s13, s14, s15, s16, s17⟩
   go_simp; with_reducible rfl
  rotate_left
  ·simp only [Act.put, qa9, qb9, qc9, i64_w, i32_w]
   rfl
  refine take_ (i := 24) (N := some 102) (v := ?_) (a' := ?_) q9_59 rfl rfl (take_ofW HT_.out HW_.out (by kernel_rfl)) (fun _ _ _ h => h) (Or.inl ⟨by rfl, ?_⟩) hHeld ?_ ?_; rotate_left
  ·rintro w' ⟨s0, s1, s2, s3, s4, s5, s6, s7, s8, s9, s10, s11, s12, s13, s14, s15, s16, s17⟩
   go_simp; with_reducible rfl
  rotate_left
  ·simp only [Act.put, qa9, qb9, qc9, i64_w, i32_w]
   rfl
  refine one_ (i := 25) (N := some 103) q9_60 rfl rfl (one_of HT_.out (by kernel_rfl)) (by decide) (fun K hK => ?_)
  refine goes_ Try.func39 (by kernel_rfl) rfl #[.agg #[.slice Ao55 t120.length co55, .int .i64 t123], .agg #[.slice Ao64 t126.length co64, .int .i64 t129]] (by rfl) rfl rfl bE ?_
  with_reducible refine (laws_floats.calls k _ _ t120 t123 _ _ t126 t129 true _ ?side1 ?side2 ?side3 ?side4 A23.out).mono ?_
  (case side1 => exact bD ((Kd.R_reads' HO122.out).2.2))
  (case side2 => exact (Kd.R_reads' HO122.out).2.1)
  (case side3 => exact bD ((Kd.R_reads' HO128.out).2.2))
  (case side4 => exact (Kd.R_reads' HO128.out).2.1)
  rintro e w133 ⟨rfl, hb⟩
  refine ⟨_, rfl, ?_⟩
  replace HO103 := am (Kd.R_below (bC HO103.out) hb); replace HO108 := am (Kd.R_below (bC HO108.out) hb); replace HO111 := am (Kd.R_below (bC HO111.out) hb); replace HO116 := am (Kd.R_below (bC HO116.out) hb); replace HO122 := am (Kd.R_below (bC HO122.out) hb); replace HO128 := am (Kd.R_below (bC HO128.out) hb); replace HO134 := am (Kd.R_below (bC HO134.out) hb); replace HO140 := am (Kd.R_below (bC HO140.out) hb); replace HO144 := am (Kd.R_below (bC HO144.out) hb); replace HO150 := am (Kd.R_below (bC HO150.out) hb); replace HO156 := am (Kd.R_below (bC HO156.out) hb); replace HO162 := am (Kd.R_below (bC HO162.out) hb); replace HO166 := am (Kd.R_below (bC HO166.out) hb); replace HO170 := am (Kd.R_below (bC HO170.out) hb); replace BK105 := am (blk_below (bA BK105.out) hb); replace BK113 := am (blk_below (bA BK113.out) hb); replace BK119 := am (blk_below (bA BK119.out) hb); replace BK125 := am (blk_below (bA BK125.out) hb); replace BK131 := am (blk_below (bA BK131.out) hb); replace BK137 := am (blk_below (bA BK137.out) hb); replace BK147 := am (blk_below (bA BK147.out) hb); replace BK153 := am (blk_below (bA BK153.out) hb); replace BK159 := am (blk_below (bA BK159.out) hb); replace BK173 := am (blk_below (bA BK173.out) hb); replace HB := am (below_step (bB HB.out) hb); (try clear hb); (try clear hb2); (try clear hk); (try clear hi); clear A23
  refine hK.out _ _ ⟨(blk_cell BK125.out 0).trans rfl, (blk_cell BK125.out 1).trans rfl, (blk_cell BK131.out 0).trans rfl, (blk_cell BK131.out 1).trans rfl, (blk_cell BK137.out 0).trans rfl, (blk_cell BK137.out 1).trans rfl, (blk_cell BK147.out 0).trans rfl, (blk_cell BK147.out 1).trans rfl, (blk_cell BK153.out 0).trans rfl, (blk_cell BK153.out 1).trans rfl, (blk_cell BK119.out 0).trans rfl, (blk_cell BK119.out 1).trans rfl, (blk_cell BK159.out 0).trans rfl, (blk_cell BK159.out 1).trans rfl, (blk_cell BK105.out 0).trans rfl, (blk_cell BK105.out 1).trans rfl, (blk_cell BK173.out 0).trans rfl, (blk_cell BK173.out 1).trans rfl⟩ (fun hHeld => ?_)
  clear hK K
  refine norm_ (a' := ?_) ?_ ?_; rotate_left
  ·show Act.put _ (some 103) _ = _
   simp only [Act.put, qa9, qb9, qc9, i64_w, i32_w]
   rfl
  refine pure_ (i := 26) (N := some 104) (v := ?_) (a' := ?_) q9_61 rfl rfl (any_of HT_.out (by kernel_rfl)) (fun _ _ _ h => h) (Or.inl ⟨by rfl, ?_⟩) ?_ ?_; rotate_left
  ·intro w'
   go_simp; with_reducible rfl
  rotate_left
  ·simp only [Act.put, qa9, qb9, qc9, i64_w, i32_w]
   rfl
  refine pure_ (i := 27) (N := some 105) (v := ?_) (a' := ?_) q9_62 rfl rfl (any_of HT_.out (by kernel_rfl)) (fun _ _ _ h => h) (Or.inl ⟨by rfl, ?_⟩) ?_ ?_; rotate_left
  ·intro w'
   go_simp; with_reducible rfl
  rotate_left
  ·simp only [Act.put, qa9, qb9, qc9, i64_w, i32_w]
   rfl
  refine take_ (i := 28) (N := some 106) (v := ?_) (a' := ?_) q9_63 rfl rfl (take_ofW HT_.out HW_.out (by kernel_rfl)) (fun _ _ _ h => h) (Or.inl ⟨by rfl, ?_⟩) hHeld ?_ ?_; rotate_left
  ·rintro w' ⟨s0, s1, s2, s3, s4, s5, s6, s7, s8, s9, s10, s11, s12, s13, s14, s15, s16, s17⟩
   go_simp; with_reducible rfl
  rotate_left
  ·simp only [Act.put, qa9, qb9, qc9, i64_w, i32_w]
   rfl
  refine take_ (i := 29) (N := some 107) (v := ?_) (a' := ?_) q9_64 rfl rfl (take_ofW HT_.out HW_.out (by kernel_rfl)) (fun _ _ _ h => h) (Or.inl ⟨by rfl, ?_⟩) hHeld ?_ ?_; rotate_left
  ·rintro w' ⟨s0, s1, s2, s3, s4, s5, s6, s7, s8, s9, s10, s11, s12, s13, s14, s15, s16, s17⟩
   go_simp; with_reducible rfl
  rotate_left
  ·simp only [Act.put, qa9, qb9, qc9, i64_w, i32_w]
   rfl
  refine one_ (i := 30) (N := some 108) q9_65 rfl rfl (one_of HT_.out (by kernel_rfl)) (by decide) (fun K hK => ?_)
  refine goes_ Try.func39 (by kernel_rfl) rfl #[.agg #[.slice Ao74 t132.length co74, .int .i64 t135], .agg #[.slice Ao88 t142.length co88, .int .i64 t145]] (by rfl) rfl rfl bE ?_
  with_reducible refine (laws_floats.calls k _ _ t132 t135 _ _ t142 t145 true _ ?side1 ?side2 ?side3 ?side4 A25.out).mono ?_
  (case side1 => exact bD ((Kd.R_reads' HO134.out).2.2))
  (case side2 => exact (Kd.R_reads' HO134.out).2.1)
  (case side3 => exact bD ((Kd.R_reads' HO144.out).2.2))
  (case side4 => exact (Kd.R_reads' HO144.out).2.1)
  rintro e w134 ⟨rfl, hb⟩
  refine ⟨_, rfl, ?_⟩
  replace HO103 := am (Kd.R_below (bC HO103.out) hb); replace HO108 := am (Kd.R_below (bC HO108.out) hb); replace HO111 := am (Kd.R_below (bC HO111.out) hb); replace HO116 := am (Kd.R_below (bC HO116.out) hb); replace HO122 := am (Kd.R_below (bC HO122.out) hb); replace HO128 := am (Kd.R_below (bC HO128.out) hb); replace HO134 := am (Kd.R_below (bC HO134.out) hb); replace HO140 := am (Kd.R_below (bC HO140.out) hb); replace HO144 := am (Kd.R_below (bC HO144.out) hb); replace HO150 := am (Kd.R_below (bC HO150.out) hb); replace HO156 := am (Kd.R_below (bC HO156.out) hb); replace HO162 := am (Kd.R_below (bC HO162.out) hb); replace HO166 := am (Kd.R_below (bC HO166.out) hb); replace HO170 := am (Kd.R_below (bC HO170.out) hb); replace BK105 := am (blk_below (bA BK105.out) hb); replace BK113 := am (blk_below (bA BK113.out) hb); replace BK119 := am (blk_below (bA BK119.out) hb); replace BK125 := am (blk_below (bA BK125.out) hb); replace BK131 := am (blk_below (bA BK131.out) hb); replace BK137 := am (blk_below (bA BK137.out) hb); replace BK147 := am (blk_below (bA BK147.out) hb); replace BK153 := am (blk_below (bA BK153.out) hb); replace BK159 := am (blk_below (bA BK159.out) hb); replace BK173 := am (blk_below (bA BK173.out) hb); replace HB := am (below_step (bB HB.out) hb); (try clear hb); (try clear hb2); (try clear hk); (try clear hi); clear A25
  refine hK.out _ _ ⟨(blk_cell BK125.out 0).trans rfl, (blk_cell BK125.out 1).trans rfl, (blk_cell BK131.out 0).trans rfl, (blk_cell BK131.out 1).trans rfl, (blk_cell BK137.out 0).trans rfl, (blk_cell BK137.out 1).trans rfl, (blk_cell BK147.out 0).trans rfl, (blk_cell BK147.out 1).trans rfl, (blk_cell BK153.out 0).trans rfl, (blk_cell BK153.out 1).trans rfl, (blk_cell BK119.out 0).trans rfl, (blk_cell BK119.out 1).trans rfl, (blk_cell BK159.out 0).trans rfl, (blk_cell BK159.out 1).trans rfl, (blk_cell BK105.out 0).trans rfl, (blk_cell BK105.out 1).trans rfl, (blk_cell BK173.out 0).trans rfl, (blk_cell BK173.out 1).trans rfl⟩ (fun hHeld => ?_)
  clear hK K
  refine norm_ (a' := ?_) ?_ ?_; rotate_left
  ·show Act.put _ (some 108) _ = _
   simp only [Act.put, qa9, qb9, qc9, i64_w, i32_w]
   rfl
  refine pure_ (i := 31) (N := some 109) (v := ?_) (a' := ?_) q9_66 rfl rfl (any_of HT_.out (by kernel_rfl)) (fun _ _ _ h => h) (Or.inl ⟨by rfl, ?_⟩) ?_ ?_; rotate_left
  ·intro w'
   go_simp; with_reducible rfl
  rotate_left
  ·simp only [Act.put, qa9, qb9, qc9, i64_w, i32_w]
   rfl
  refine pure_ (i := 32) (N := some 110) (v := ?_) (a' := ?_) q9_67 rfl rfl (any_of HT_.out (by kernel_rfl)) (fun _ _ _ h => h) (Or.inl ⟨by rfl, ?_⟩) ?_ ?_; rotate_left
  ·intro w'
   go_simp; with_reducible rfl
  rotate_left
  ·simp only [Act.put, qa9, qb9, qc9, i64_w, i32_w]
   rfl
  refine take_ (i := 33) (N := some 111) (v := ?_) (a' := ?_) q9_68 rfl rfl (take_ofW HT_.out HW_.out (by kernel_rfl)) (fun _ _ _ h => h) (Or.inl ⟨by rfl, ?_⟩) hHeld ?_ ?_; rotate_left
  ·rintro w' ⟨s0, s1, s2, s3, s4, s5, s6, s7, s8, s9, s10, s11, s12, s13, s14, s15, s16, s17⟩
   go_simp; with_reducible rfl
  rotate_left
  ·simp only [Act.put, qa9, qb9, qc9, i64_w, i32_w]
   rfl
  refine take_ (i := 34) (N := some 112) (v := ?_) (a' := ?_) q9_69 rfl rfl (take_ofW HT_.out HW_.out (by kernel_rfl)) (fun _ _ _ h => h) (Or.inl ⟨by rfl, ?_⟩) hHeld ?_ ?_; rotate_left
  ·rintro w' ⟨s0, s1, s2, s3, s4, s5, s6, s7, s8, s9, s10, s11, s12, s13, s14, s15, s16, s17⟩
   go_simp; with_reducible rfl
  rotate_left
  ·simp only [Act.put, qa9, qb9, qc9, i64_w, i32_w]
   rfl
  refine one_ (i := 35) (N := some 113) q9_70 rfl rfl (one_of HT_.out (by kernel_rfl)) (by decide) (fun K hK => ?_)
  refine goes_ Try.func39 (by kernel_rfl) rfl #[.agg #[.slice Ao95 t148.length co95, .int .i64 t151], .agg #[.slice Ao47 t114.length co47, .int .i64 t117]] (by rfl) rfl rfl bE ?_
  with_reducible refine (laws_floats.calls k _ _ t148 t151 _ _ t114 t117 true _ ?side1 ?side2 ?side3 ?side4 A27.out).mono ?_
  (case side1 => exact bD ((Kd.R_reads' HO150.out).2.2))
  (case side2 => exact (Kd.R_reads' HO150.out).2.1)
  (case side3 => exact bD ((Kd.R_reads' HO116.out).2.2))
  (case side4 => exact (Kd.R_reads' HO116.out).2.1)
  rintro e w135 ⟨rfl, hb⟩
  refine ⟨_, rfl, ?_⟩
  replace HO103 := am (Kd.R_below (bC HO103.out) hb); replace HO108 := am (Kd.R_below (bC HO108.out) hb); replace HO111 := am (Kd.R_below (bC HO111.out) hb); replace HO116 := am (Kd.R_below (bC HO116.out) hb); replace HO122 := am (Kd.R_below (bC HO122.out) hb); replace HO128 := am (Kd.R_below (bC HO128.out) hb); replace HO134 := am (Kd.R_below (bC HO134.out) hb); replace HO140 := am (Kd.R_below (bC HO140.out) hb); replace HO144 := am (Kd.R_below (bC HO144.out) hb); replace HO150 := am (Kd.R_below (bC HO150.out) hb); replace HO156 := am (Kd.R_below (bC HO156.out) hb); replace HO162 := am (Kd.R_below (bC HO162.out) hb); replace HO166 := am (Kd.R_below (bC HO166.out) hb); replace HO170 := am (Kd.R_below (bC HO170.out) hb); replace BK105 := am (blk_below (bA BK105.out) hb); replace BK113 := am (blk_below (bA BK113.out) hb); replace BK119 := am (blk_below (bA BK119.out) hb); replace BK125 := am (blk_below (bA BK125.out) hb); replace BK131 := am (blk_below (bA BK131.out) hb); replace BK137 := am (blk_below (bA BK137.out) hb); replace BK147 := am (blk_below (bA BK147.out) hb); replace BK153 := am (blk_below (bA BK153.out) hb); replace BK159 := am (blk_below (bA BK159.out) hb); replace BK173 := am (blk_below (bA BK173.out) hb); replace HB := am (below_step (bB HB.out) hb); (try clear hb); (try clear hb2); (try clear hk); (try clear hi); clear A27
  refine hK.out _ _ ⟨(blk_cell BK125.out 0).trans rfl, (blk_cell BK125.out 1).trans rfl, (blk_cell BK131.out 0).trans rfl, (blk_cell BK131.out 1).trans rfl, (blk_cell BK137.out 0).trans rfl, (blk_cell BK137.out 1).trans rfl, (blk_cell BK147.out 0).trans rfl, (blk_cell BK147.out 1).trans rfl, (blk_cell BK153.out 0).trans rfl, (blk_cell BK153.out 1).trans rfl, (blk_cell BK119.out 0).trans rfl, (blk_cell BK119.out 1).trans rfl, (blk_cell BK159.out 0).trans rfl, (blk_cell BK159.out 1).trans rfl, (blk_cell BK105.out 0).trans rfl, (blk_cell BK105.out 1).trans rfl, (blk_cell BK173.out 0).trans rfl, (blk_cell BK173.out 1).trans rfl⟩ (fun hHeld => ?_)
  clear hK K
  refine norm_ (a' := ?_) ?_ ?_; rotate_left
  ·show Act.put _ (some 113) _ = _
   simp only [Act.put, qa9, qb9, qc9, i64_w, i32_w]
   rfl
  refine pure_ (i := 36) (N := some 114) (v := ?_) (a' := ?_) q9_71 rfl rfl (any_of HT_.out (by kernel_rfl)) (fun _ _ _ h => h) (Or.inl ⟨by rfl, ?_⟩) ?_ ?_; rotate_left
  ·intro w'
   go_simp; with_reducible rfl
  rotate_left
  ·simp only [Act.put, qa9, qb9, qc9, i64_w, i32_w]
   rfl
  refine pure_ (i := 37) (N := some 115) (v := ?_) (a' := ?_) q9_72 rfl rfl (any_of HT_.out (by kernel_rfl)) (fun _ _ _ h => h) (Or.inl ⟨by rfl, ?_⟩) ?_ ?_; rotate_left
  ·intro w'
   go_simp; with_reducible rfl
  rotate_left
  ·simp only [Act.put, qa9, qb9, qc9, i64_w, i32_w]
   rfl
  refine take_ (i := 38) (N := some 116) (v := ?_) (a' := ?_) q9_73 rfl rfl (take_ofW HT_.out HW_.out (by kernel_rfl)) (fun _ _ _ h => h) (Or.inl ⟨by rfl, ?_⟩) hHeld ?_ ?_; rotate_left
  ·rintro w' ⟨s0, s1, s2, s3, s4, s5, s6, s7, s8, s9, s10, s11, s12, s13, s14, s15, s16, s17⟩
   go_simp; with_reducible rfl
  rotate_left
  ·simp only [Act.put, qa9, qb9, qc9, i64_w, i32_w]
   rfl
  refine take_ (i := 39) (N := some 117) (v := ?_) (a' := ?_) q9_74 rfl rfl (take_ofW HT_.out HW_.out (by kernel_rfl)) (fun _ _ _ h => h) (Or.inl ⟨by rfl, ?_⟩) hHeld ?_ ?_; rotate_left
  ·rintro w' ⟨s0, s1, s2, s3, s4, s5, s6, s7, s8, s9, s10, s11, s12, s13, s14, s15, s16, s17⟩
   go_simp; with_reducible rfl
  rotate_left
  ·simp only [Act.put, qa9, qb9, qc9, i64_w, i32_w]
   rfl
  refine one_ (i := 40) (N := some 118) q9_75 rfl rfl (one_of HT_.out (by kernel_rfl)) (by decide) (fun K hK => ?_)
  refine goes_ Try.func39 (by kernel_rfl) rfl #[.agg #[.slice Ao109 t154.length co109, .int .i64 t157], .agg #[.slice Ao36 t101.length co36, .int .i64 t104]] (by rfl) rfl rfl bE ?_
  with_reducible refine (laws_floats.calls k _ _ t154 t157 _ _ t101 t104 true _ ?side1 ?side2 ?side3 ?side4 A29.out).mono ?_
  (case side1 => exact bD ((Kd.R_reads' HO156.out).2.2))
  (case side2 => exact (Kd.R_reads' HO156.out).2.1)
  (case side3 => exact bD ((Kd.R_reads' HO103.out).2.2))
  (case side4 => exact (Kd.R_reads' HO103.out).2.1)
  rintro e w136 ⟨rfl, hb⟩
  refine ⟨_, rfl, ?_⟩
  replace HO103 := am (Kd.R_below (bC HO103.out) hb); replace HO108 := am (Kd.R_below (bC HO108.out) hb); replace HO111 := am (Kd.R_below (bC HO111.out) hb); replace HO116 := am (Kd.R_below (bC HO116.out) hb); replace HO122 := am (Kd.R_below (bC HO122.out) hb); replace HO128 := am (Kd.R_below (bC HO128.out) hb); replace HO134 := am (Kd.R_below (bC HO134.out) hb); replace HO140 := am (Kd.R_below (bC HO140.out) hb); replace HO144 := am (Kd.R_below (bC HO144.out) hb); replace HO150 := am (Kd.R_below (bC HO150.out) hb); replace HO156 := am (Kd.R_below (bC HO156.out) hb); replace HO162 := am (Kd.R_below (bC HO162.out) hb); replace HO166 := am (Kd.R_below (bC HO166.out) hb); replace HO170 := am (Kd.R_below (bC HO170.out) hb); replace BK105 := am (blk_below (bA BK105.out) hb); replace BK113 := am (blk_below (bA BK113.out) hb); replace BK119 := am (blk_below (bA BK119.out) hb); replace BK125 := am (blk_below (bA BK125.out) hb); replace BK131 := am (blk_below (bA BK131.out) hb); replace BK137 := am (blk_below (bA BK137.out) hb); replace BK147 := am (blk_below (bA BK147.out) hb); replace BK153 := am (blk_below (bA BK153.out) hb); replace BK159 := am (blk_below (bA BK159.out) hb); replace BK173 := am (blk_below (bA BK173.out) hb); replace HB := am (below_step (bB HB.out) hb); (try clear hb); (try clear hb2); (try clear hk); (try clear hi); clear A29
  refine hK.out _ _ ⟨(blk_cell BK125.out 0).trans rfl, (blk_cell BK125.out 1).trans rfl, (blk_cell BK131.out 0).trans rfl, (blk_cell BK131.out 1).trans rfl, (blk_cell BK137.out 0).trans rfl, (blk_cell BK137.out 1).trans rfl, (blk_cell BK147.out 0).trans rfl, (blk_cell BK147.out 1).trans rfl, (blk_cell BK153.out 0).trans rfl, (blk_cell BK153.out 1).trans rfl, (blk_cell BK119.out 0).trans rfl, (blk_cell BK119.out 1).trans rfl, (blk_cell BK159.out 0).trans rfl, (blk_cell BK159.out 1).trans rfl, (blk_cell BK105.out 0).trans rfl, (blk_cell BK105.out 1).trans rfl, (blk_cell BK173.out 0).trans rfl, (blk_cell BK173.out 1).trans rfl⟩ (fun hHeld => ?_)
  clear hK K
  refine norm_ (a' := ?_) ?_ ?_; rotate_left
  ·show Act.put _ (some 118) _ = _
   simp only [Act.put, qa9, qb9, qc9, i64_w, i32_w]
   rfl
  refine pure_ (i := 41) (N := some 119) (v := ?_) (a' := ?_) q9_76 rfl rfl (any_of HT_.out (by kernel_rfl)) (fun _ _ _ h => h) (Or.inl ⟨by rfl, ?_⟩) ?_ ?_; rotate_left
  ·intro w'
   go_simp; with_reducible rfl
  rotate_left
  ·simp only [Act.put, qa9, qb9, qc9, i64_w, i32_w]
   rfl
  refine pure_ (i := 42) (N := some 120) (v := ?_) (a' := ?_) q9_77 rfl rfl (any_of HT_.out (by kernel_rfl)) (fun _ _ _ h => h) (Or.inl ⟨by rfl, ?_⟩) ?_ ?_; rotate_left
  ·intro w'
   go_simp; with_reducible rfl
  rotate_left
  ·simp only [Act.put, qa9, qb9, qc9, i64_w, i32_w]
   rfl
  refine pure_ (i := 43) (N := some 121) (v := ?_) (a' := ?_) q9_78 rfl rfl (any_of HT_.out (by kernel_rfl)) (fun _ _ _ h => h) (Or.inl ⟨by rfl, ?_⟩) ?_ ?_; rotate_left
  ·intro w'
   go_simp; with_reducible rfl
  rotate_left
  ·simp only [Act.put, qa9, qb9, qc9, i64_w, i32_w]
   rfl
  refine pure_ (i := 44) (N := some 122) (v := ?_) (a' := ?_) q9_79 rfl rfl (any_of HT_.out (by kernel_rfl)) (fun _ _ _ h => h) (Or.inl ⟨by rfl, ?_⟩) ?_ ?_; rotate_left
  ·intro w'
   go_simp; with_reducible rfl
  rotate_left
  ·simp only [Act.put, qa9, qb9, qc9, i64_w, i32_w]
   rfl
  refine pure_ (i := 45) (N := some 123) (v := ?_) (a' := ?_) q9_80 rfl rfl (any_of HT_.out (by kernel_rfl)) (fun _ _ _ h => h) (Or.inl ⟨by rfl, ?_⟩) ?_ ?_; rotate_left
  ·intro w'
   go_simp; with_reducible rfl
  rotate_left
  ·simp only [Act.put, qa9, qb9, qc9, i64_w, i32_w]
   rfl
  refine take_ (i := 46) (N := some 124) (v := ?_) (a' := ?_) q9_81 rfl rfl (take_ofW HT_.out HW_.out (by kernel_rfl)) (fun _ _ _ h => h) (Or.inl ⟨by rfl, ?_⟩) hHeld ?_ ?_; rotate_left
  ·rintro w' ⟨s0, s1, s2, s3, s4, s5, s6, s7, s8, s9, s10, s11, s12, s13, s14, s15, s16, s17⟩
   go_simp; with_reducible rfl
  rotate_left
  ·simp only [Act.put, qa9, qb9, qc9, i64_w, i32_w]
   rfl
  refine take_ (i := 47) (N := some 125) (v := ?_) (a' := ?_) q9_82 rfl rfl (take_ofW HT_.out HW_.out (by kernel_rfl)) (fun _ _ _ h => h) (Or.inl ⟨by rfl, ?_⟩) hHeld ?_ ?_; rotate_left
  ·rintro w' ⟨s0, s1, s2, s3, s4, s5, s6, s7, s8, s9, s10, s11, s12, s13, s14, s15, s16, s17⟩
   go_simp; with_reducible rfl
  rotate_left
  ·simp only [Act.put, qa9, qb9, qc9, i64_w, i32_w]
   rfl
  refine one_ (i := 48) (N := some 126) q9_83 rfl rfl (one_of HT_.out (by kernel_rfl)) (by decide) (fun K hK => ?_)
  refine goes_ Try.func31 (by kernel_rfl) rfl #[.agg #[.slice Ao55 t120.length co55, .int .i64 t123]] (by rfl) rfl rfl bE ?_
  with_reducible refine (impl_NegateFloat.calls k _ _ t120 t123 t178 t181 _ ?side1 ?side2 A32.out).mono ?_
  (case side1 => exact bD ((Kd.R_reads' HO122.out).2.2))
  (case side2 => exact (Kd.R_reads' HO122.out).2.1)
  rintro e w137 ⟨v179, rfl, ho0, hb⟩
  refine ⟨_, rfl, ?_⟩
  have HO180 := am (Kd.R_lower (Kd.R_new' (Kd.R_new' (Kd.R_new' (Kd.R_new' (Kd.R_new' (Kd.R_new' (Kd.R_new' (Kd.R_new' (Kd.R_new' (Kd.R_new' (Kd.R_new' (Kd.R_new' (Kd.R_new' ho0 (Kd.R_lt (bC HO103.out))) (Kd.R_lt (bC HO111.out))) (Kd.R_lt (bC HO116.out))) (Kd.R_lt (bC HO122.out))) (Kd.R_lt (bC HO128.out))) (Kd.R_lt (bC HO134.out))) (Kd.R_lt (bC HO140.out))) (Kd.R_lt (bC HO144.out))) (Kd.R_lt (bC HO150.out))) (Kd.R_lt (bC HO156.out))) (Kd.R_lt (bC HO162.out))) (Kd.R_lt (bC HO166.out))) (Kd.R_lt (bC HO170.out))) (below_size (bB HB.out))); replace HO103 := am (Kd.R_elder' (bC HO103.out) (Kd.R_base ho0) hb); replace HO108 := am (Kd.R_below (bC HO108.out) hb); replace HO111 := am (Kd.R_elder' (bC HO111.out) (Kd.R_base ho0) hb); replace HO116 := am (Kd.R_elder' (bC HO116.out) (Kd.R_base ho0) hb); replace HO122 := am (Kd.R_elder' (bC HO122.out) (Kd.R_base ho0) hb); replace HO128 := am (Kd.R_elder' (bC HO128.out) (Kd.R_base ho0) hb); replace HO134 := am (Kd.R_elder' (bC HO134.out) (Kd.R_base ho0) hb); replace HO140 := am (Kd.R_elder' (bC HO140.out) (Kd.R_base ho0) hb); replace HO144 := am (Kd.R_elder' (bC HO144.out) (Kd.R_base ho0) hb); replace HO150 := am (Kd.R_elder' (bC HO150.out) (Kd.R_base ho0) hb); replace HO156 := am (Kd.R_elder' (bC HO156.out) (Kd.R_base ho0) hb); replace HO162 := am (Kd.R_elder' (bC HO162.out) (Kd.R_base ho0) hb); replace HO166 := am (Kd.R_elder' (bC HO166.out) (Kd.R_base ho0) hb); replace HO170 := am (Kd.R_elder' (bC HO170.out) (Kd.R_base ho0) hb); replace BK105 := am (blk_below (bA BK105.out) hb); replace BK113 := am (blk_below (bA BK113.out) hb); replace BK119 := am (blk_below (bA BK119.out) hb); replace BK125 := am (blk_below (bA BK125.out) hb); replace BK131 := am (blk_below (bA BK131.out) hb); replace BK137 := am (blk_below (bA BK137.out) hb); replace BK147 := am (blk_below (bA BK147.out) hb); replace BK153 := am (blk_below (bA BK153.out) hb); replace BK159 := am (blk_below (bA BK159.out) hb); replace BK173 := am (blk_below (bA BK173.out) hb); replace HB := am (below_step (bB HB.out) hb); (try clear hb); (try clear hb2); (try clear hk); (try clear hi); (try clear ho0); clear A32
  obtain ⟨Ao138, co138, eo138⟩ := Kd.R_slice HO180.out
  (first | subst eo138 | (injection eo138 with f1_ f2_ f3_; have f4_ := f1_.symm; have f5_ := f3_.symm; clear f1_ f2_ f3_; subst f4_; subst f5_))
  refine hK.out _ _ ⟨(blk_cell BK125.out 0).trans rfl, (blk_cell BK125.out 1).trans rfl, (blk_cell BK131.out 0).trans rfl, (blk_cell BK131.out 1).trans rfl, (blk_cell BK137.out 0).trans rfl, (blk_cell BK137.out 1).trans rfl, (blk_cell BK147.out 0).trans rfl, (blk_cell BK147.out 1).trans rfl, (blk_cell BK153.out 0).trans rfl, (blk_cell BK153.out 1).trans rfl, (blk_cell BK119.out 0).trans rfl, (blk_cell BK119.out 1).trans rfl, (blk_cell BK159.out 0).trans rfl, (blk_cell BK159.out 1).trans rfl, (blk_cell BK105.out 0).trans rfl, (blk_cell BK105.out 1).trans rfl, (blk_cell BK173.out 0).trans rfl, (blk_cell BK173.out 1).trans rfl⟩ (fun hHeld => ?_)
  clear hK K
  refine norm_ (a' := ?_) ?_ ?_; rotate_left
  ·show Act.put _ (some 126) _ = _
   simp only [Act.put, qa9, qb9, qc9, i64_w, i32_w]
   rfl
  refine one_ (i := 49) (N := some 127) q9_84 rfl rfl (one_of HT_.out (by kernel_rfl)) (by decide) (fun K hK => ?_)
  refine goes_ Try.func39 (by kernel_rfl) rfl #[.agg #[.slice Ao128 t168.length co128, .int .i64 t171], .agg #[.slice Ao138 t178.length co138, .int .i64 t181]] (by rfl) rfl rfl bE ?_
  with_reducible refine (laws_floats.calls k _ _ t168 t171 _ _ t178 t181 t182 _ ?side1 ?side2 ?side3 ?side4 A33.out).mono ?_
  (case side1 => exact bD ((Kd.R_reads' HO170.out).2.2))
  (case side2 => exact (Kd.R_reads' HO170.out).2.1)
  (case side3 => exact bD ((Kd.R_reads' HO180.out).2.2))
  (case side4 => exact (Kd.R_reads' HO180.out).2.1)
  rintro e w139 ⟨rfl, hb⟩
  refine ⟨_, rfl, ?_⟩
  replace HO103 := am (Kd.R_below (bC HO103.out) hb); replace HO108 := am (Kd.R_below (bC HO108.out) hb); replace HO111 := am (Kd.R_below (bC HO111.out) hb); replace HO116 := am (Kd.R_below (bC HO116.out) hb); replace HO122 := am (Kd.R_below (bC HO122.out) hb); replace HO128 := am (Kd.R_below (bC HO128.out) hb); replace HO134 := am (Kd.R_below (bC HO134.out) hb); replace HO140 := am (Kd.R_below (bC HO140.out) hb); replace HO144 := am (Kd.R_below (bC HO144.out) hb); replace HO150 := am (Kd.R_below (bC HO150.out) hb); replace HO156 := am (Kd.R_below (bC HO156.out) hb); replace HO162 := am (Kd.R_below (bC HO162.out) hb); replace HO166 := am (Kd.R_below (bC HO166.out) hb); replace HO170 := am (Kd.R_below (bC HO170.out) hb); replace HO180 := am (Kd.R_below (bC HO180.out) hb); replace BK105 := am (blk_below (bA BK105.out) hb); replace BK113 := am (blk_below (bA BK113.out) hb); replace BK119 := am (blk_below (bA BK119.out) hb); replace BK125 := am (blk_below (bA BK125.out) hb); replace BK131 := am (blk_below (bA BK131.out) hb); replace BK137 := am (blk_below (bA BK137.out) hb); replace BK147 := am (blk_below (bA BK147.out) hb); replace BK153 := am (blk_below (bA BK153.out) hb); replace BK159 := am (blk_below (bA BK159.out) hb); replace BK173 := am (blk_below (bA BK173.out) hb); replace HB := am (below_step (bB HB.out) hb); (try clear hb); (try clear hb2); (try clear hk); (try clear hi); clear A33
  refine hK.out _ _ ⟨(blk_cell BK125.out 0).trans rfl, (blk_cell BK125.out 1).trans rfl, (blk_cell BK131.out 0).trans rfl, (blk_cell BK131.out 1).trans rfl, (blk_cell BK137.out 0).trans rfl, (blk_cell BK137.out 1).trans rfl, (blk_cell BK147.out 0).trans rfl, (blk_cell BK147.out 1).trans rfl, (blk_cell BK153.out 0).trans rfl, (blk_cell BK153.out 1).trans rfl, (blk_cell BK119.out 0).trans rfl, (blk_cell BK119.out 1).trans rfl, (blk_cell BK159.out 0).trans rfl, (blk_cell BK159.out 1).trans rfl, (blk_cell BK105.out 0).trans rfl, (blk_cell BK105.out 1).trans rfl, (blk_cell BK173.out 0).trans rfl, (blk_cell BK173.out 1).trans rfl⟩ (fun hHeld => ?_)
  clear hK K
  refine norm_ (a' := ?_) ?_ ?_; rotate_left
  ·show Act.put _ (some 127) _ = _
   simp only [Act.put, qa9, qb9, qc9, i64_w, i32_w]
   rfl
  refine pure_ (i := 50) (N := some 128) (v := ?_) (a' := ?_) q9_85 rfl rfl (any_of HT_.out (by kernel_rfl)) (fun _ _ _ h => h) (Or.inl ⟨by rfl, ?_⟩) ?_ ?_; rotate_left
  ·intro w'
   go_simp; with_reducible rfl
  rotate_left
  ·simp only [Act.put, qa9, qb9, qc9, i64_w, i32_w]
   rfl
  refine pure_ (i := 51) (N := some 129) (v := ?_) (a' := ?_) q9_86 rfl rfl (any_of HT_.out (by kernel_rfl)) (fun _ _ _ h => h) (Or.inl ⟨by rfl, ?_⟩) ?_ ?_; rotate_left
  ·intro w'
   go_simp; with_reducible rfl
  rotate_left
  ·simp only [Act.put, qa9, qb9, qc9, i64_w, i32_w]
   rfl
  refine pure_ (i := 52) (N := some 2) (v := ?_) (a' := ?_) q9_87 rfl rfl (any_of HT_.out (by kernel_rfl)) (fun _ _ _ h => h) (Or.inl ⟨by rfl, ?_⟩) ?_ ?_; rotate_left
  ·intro w'
   go_simp; with_reducible rfl
  rotate_left
  ·simp only [Act.put, qa9, qb9, qc9, i64_w, i32_w]
   rfl
  refine done_ (done_of HT_.out (by kernel_rfl)) ?_
  try go_wp2
  go_ret
  exact ⟨by first | rfl | (simp [errW_none, errW_some] <;> rfl) | (simp [*, errW_none, errW_some] <;> rfl), bB HB.out⟩
 | false =>
  have H := HL.out; clear HL; rw [if_neg (by decide)] at H
  obtain rfl := Option.some.inj H
  clear H
  refine start_ (n := 53) (S := fun w' => w'.cell? ⟨gb125, 0, none⟩ = some (.slice Ao55 t120.length co55) ∧ w'.cell? ⟨gb125, 1, none⟩ = some (.int .i64 t123) ∧ w'.cell? ⟨gb131, 0, none⟩ = some (.slice Ao64 t126.length co64) ∧ w'.cell? ⟨gb131, 1, none⟩ = some (.int .i64 t129) ∧ w'.cell? ⟨gb137, 0, none⟩ = some (.slice Ao74 t132.length co74) ∧ w'.cell? ⟨gb137, 1, none⟩ = some (.int .i64 t135) ∧ w'.cell? ⟨gb147, 0, none⟩ = some (.slice Ao88 t142.length co88) ∧ w'.cell? ⟨gb147, 1, none⟩ = some (.int .i64 t145) ∧ w'.cell? ⟨gb153, 0, none⟩ = some (.slice Ao95 t148.length co95) ∧ w'.cell? ⟨gb153, 1, none⟩ = some (.int .i64 t151) ∧ w'.cell? ⟨gb119, 0, none⟩ = some (.slice Ao47 t114.length co47) ∧ w'.cell? ⟨gb119, 1, none⟩ = some (.int .i64 t117) ∧ w'.cell? ⟨gb159, 0, none⟩ = some (.slice Ao109 t154.length co109) ∧ w'.cell? ⟨gb159, 1, none⟩ = some (.int .i64 t157) ∧ w'.cell? ⟨gb105, 0, none⟩ = some (.slice Ao36 t101.length co36) ∧ w'.cell? ⟨gb105, 1, none⟩ = some (.int .i64 t104)) (ds := []) q9_34 (by kernel_rfl) rfl rfl ⟨(blk_cell BK125.out 0).trans rfl, (blk_cell BK125.out 1).trans rfl, (blk_cell BK131.out 0).trans rfl, (blk_cell BK131.out 1).trans rfl, (blk_cell BK137.out 0).trans rfl, (blk_cell BK137.out 1).trans rfl, (blk_cell BK147.out 0).trans rfl, (blk_cell BK147.out 1).trans rfl, (blk_cell BK153.out 0).trans rfl, (blk_cell BK153.out 1).trans rfl, (blk_cell BK119.out 0).trans rfl, (blk_cell BK119.out 1).trans rfl, (blk_cell BK159.out 0).trans rfl, (blk_cell BK159.out 1).trans rfl, (blk_cell BK105.out 0).trans rfl, (blk_cell BK105.out 1).trans rfl⟩ (fun hHeld => ?_); refine with_tabW laws_FnFloatSums.tab13 laws_FnFloatSums.bits13 (fun HT_ HW_ => ?_)
  generalize w131.drew = w238 at HO103 HO108 HO111 HO116 HO122 HO128 HO134 HO140 HO144 HO150 HO156 HO162 HO166 HO170 BK105 BK113 BK119 BK125 BK131 BK137 BK147 BK153 BK159 BK173 HB hHeld ⊢
  refine pure_ (i := 0) (N := some 78) (v := ?_) (a' := ?_) q9_35 rfl rfl (any_of HT_.out (by kernel_rfl)) (fun _ _ _ h => h) (Or.inl ⟨by rfl, ?_⟩) ?_ ?_; rotate_left
  ·intro w'
   go_simp; with_reducible rfl
  rotate_left
  ·simp only [Act.put, qa9, qb9, qc9, i64_w, i32_w]
   rfl
  refine pure_ (i := 1) (N := some 79) (v := ?_) (a' := ?_) q9_36 rfl rfl (any_of HT_.out (by kernel_rfl)) (fun _ _ _ h => h) (Or.inl ⟨by rfl, ?_⟩) ?_ ?_; rotate_left
  ·intro w'
   go_simp; with_reducible rfl
  rotate_left
  ·simp only [Act.put, qa9, qb9, qc9, i64_w, i32_w]
   rfl
  refine pure_ (i := 2) (N := some 80) (v := ?_) (a' := ?_) q9_37 rfl rfl (any_of HT_.out (by kernel_rfl)) (fun _ _ _ h => h) (Or.inl ⟨by rfl, ?_⟩) ?_ ?_; rotate_left
  ·intro w'
   go_simp; with_reducible rfl
  rotate_left
  ·simp only [Act.put, qa9, qb9, qc9, i64_w, i32_w]
   rfl
  refine pure_ (i := 3) (N := some 81) (v := ?_) (a' := ?_) q9_38 rfl rfl (any_of HT_.out (by kernel_rfl)) (fun _ _ _ h => h) (Or.inl ⟨by rfl, ?_⟩) ?_ ?_; rotate_left
  ·intro w'
   go_simp; with_reducible rfl
  rotate_left
  ·simp only [Act.put, qa9, qb9, qc9, i64_w, i32_w]
   rfl
  refine pure_ (i := 4) (N := some 82) (v := ?_) (a' := ?_) q9_39 rfl rfl (any_of HT_.out (by kernel_rfl)) (fun _ _ _ h => h) (Or.inl ⟨by rfl, ?_⟩) ?_ ?_; rotate_left
  ·intro w'
   go_simp; with_reducible rfl
  rotate_left
  ·simp only [Act.put, qa9, qb9, qc9, i64_w, i32_w]
   rfl
  refine pure_ (i := 5) (N := some 83) (v := ?_) (a' := ?_) q9_40 rfl rfl (any_of HT_.out (by kernel_rfl)) (fun _ _ _ h => h) (Or.inl ⟨by rfl, ?_⟩) ?_ ?_; rotate_left
  ·intro w'
   go_simp; with_reducible rfl
  rotate_left
  ·simp only [Act.put, qa9, qb9, qc9, i64_w, i32_w]
   rfl
  refine pure_ (i := 6) (N := some 84) (v := ?_) (a' := ?_) q9_41 rfl rfl (any_of HT_.out (by kernel_rfl)) (fun _ _ _ h => h) (Or.inl ⟨by rfl, ?_⟩) ?_ ?_; rotate_left
  ·intro w'
   go_simp; with_reducible rfl
  rotate_left
  ·simp only [Act.put, qa9, qb9, qc9, i64_w, i32_w]
   rfl
  refine pure_ (i := 7) (N := some 85) (v := ?_) (a' := ?_) q9_42 rfl rfl (any_of HT_.out (by kernel_rfl)) (fun _ _ _ h => h) (Or.inl ⟨by rfl, ?_⟩) ?_ ?_; rotate_left
  ·intro w'
   go_simp; with_reducible rfl
  rotate_left
  ·simp only [Act.put, qa9, qb9, qc9, i64_w, i32_w]
   rfl
  refine pure_ (i := 8) (N := some 86) (v := ?_) (a' := ?_) q9_43 rfl rfl (any_of HT_.out (by kernel_rfl)) (fun _ _ _ h => h) (Or.inl ⟨by rfl, ?_⟩) ?_ ?_; rotate_left
  ·intro w'
   go_simp; with_reducible rfl
  rotate_left
  ·simp only [Act.put, qa9, qb9, qc9, i64_w, i32_w]
   rfl
  refine pure_ (i := 9) (N := some 87) (v := ?_) (a' := ?_) q9_44 rfl rfl (any_of HT_.out (by kernel_rfl)) (fun _ _ _ h => h) (Or.inl ⟨by rfl, ?_⟩) ?_ ?_; rotate_left
  ·intro w'
   go_simp; with_reducible rfl
  rotate_left
  ·simp only [Act.put, qa9, qb9, qc9, i64_w, i32_w]
   rfl
  refine pure_ (i := 10) (N := some 88) (v := ?_) (a' := ?_) q9_45 rfl rfl (any_of HT_.out (by kernel_rfl)) (fun _ _ _ h => h) (Or.inl ⟨by rfl, ?_⟩) ?_ ?_; rotate_left
  ·intro w'
   go_simp; with_reducible rfl
  rotate_left
  ·simp only [Act.put, qa9, qb9, qc9, i64_w, i32_w]
   rfl
  refine pure_ (i := 11) (N := some 89) (v := ?_) (a' := ?_) q9_46 rfl rfl (any_of HT_.out (by kernel_rfl)) (fun _ _ _ h => h) (Or.inl ⟨by rfl, ?_⟩) ?_ ?_; rotate_left
  ·intro w'
   go_simp; with_reducible rfl
  rotate_left
  ·simp only [Act.put, qa9, qb9, qc9, i64_w, i32_w]
   rfl
  refine pure_ (i := 12) (N := some 90) (v := ?_) (a' := ?_) q9_47 rfl rfl (any_of HT_.out (by kernel_rfl)) (fun _ _ _ h => h) (Or.inl ⟨by rfl, ?_⟩) ?_ ?_; rotate_left
  ·intro w'
   go_simp; with_reducible rfl
  rotate_left
  ·simp only [Act.put, qa9, qb9, qc9, i64_w, i32_w]
   rfl
  refine pure_ (i := 13) (N := some 91) (v := ?_) (a' := ?_) q9_48 rfl rfl (any_of HT_.out (by kernel_rfl)) (fun _ _ _ h => h) (Or.inl ⟨by rfl, ?_⟩) ?_ ?_; rotate_left
  ·intro w'
   go_simp; with_reducible rfl
  rotate_left
  ·simp only [Act.put, qa9, qb9, qc9, i64_w, i32_w]
   rfl
  refine pure_ (i := 14) (N := some 92) (v := ?_) (a' := ?_) q9_49 rfl rfl (any_of HT_.out (by kernel_rfl)) (fun _ _ _ h => h) (Or.inl ⟨by rfl, ?_⟩) ?_ ?_; rotate_left
  ·intro w'
   go_simp; with_reducible rfl
  rotate_left
  ·simp only [Act.put, qa9, qb9, qc9, i64_w, i32_w]
   rfl
  refine pure_ (i := 15) (N := some 93) (v := ?_) (a' := ?_) q9_50 rfl rfl (any_of HT_.out (by kernel_rfl)) (fun _ _ _ h => h) (Or.inl ⟨by rfl, ?_⟩) ?_ ?_; rotate_left
  ·intro w'
   go_simp; with_reducible rfl
  rotate_left
  ·simp only [Act.put, qa9, qb9, qc9, i64_w, i32_w]
   rfl
  refine pure_ (i := 16) (N := some 94) (v := ?_) (a' := ?_) q9_51 rfl rfl (any_of HT_.out (by kernel_rfl)) (fun _ _ _ h => h) (Or.inl ⟨by rfl, ?_⟩) ?_ ?_; rotate_left
  ·intro w'
   go_simp; with_reducible rfl
  rotate_left
  ·simp only [Act.put, qa9, qb9, qc9, i64_w, i32_w]
   rfl
  refine pure_ (i := 17) (N := some 95) (v := ?_) (a' := ?_) q9_52 rfl rfl (any_of HT_.out (by kernel_rfl)) (fun _ _ _ h => h) (Or.inl ⟨by rfl, ?_⟩) ?_ ?_; rotate_left
  ·intro w'
   go_simp; with_reducible rfl
  rotate_left
  ·simp only [Act.put, qa9, qb9, qc9, i64_w, i32_w]
   rfl
  refine pure_ (i := 18) (N := some 96) (v := ?_) (a' := ?_) q9_53 rfl rfl (any_of HT_.out (by kernel_rfl)) (fun _ _ _ h => h) (Or.inl ⟨by rfl, ?_⟩) ?_ ?_; rotate_left
  ·intro w'
   go_simp; with_reducible rfl
  rotate_left
  ·simp only [Act.put, qa9, qb9, qc9, i64_w, i32_w]
   rfl
  refine pure_ (i := 19) (N := some 97) (v := ?_) (a' := ?_) q9_54 rfl rfl (any_of HT_.out (by kernel_rfl)) (fun _ _ _ h => h) (Or.inl ⟨by rfl, ?_⟩) ?_ ?_; rotate_left
  ·intro w'
   go_simp; with_reducible rfl
  rotate_left
  ·simp only [Act.put, qa9, qb9, qc9, i64_w, i32_w]
   rfl
  refine pure_ (i := 20) (N := some 98) (v := ?_) (a' := ?_) q9_55 rfl rfl (any_of HT_.out (by kernel_rfl)) (fun _ _ _ h => h) (Or.inl ⟨by rfl, ?_⟩) ?_ ?_; rotate_left
  ·intro w'
   go_simp; with_reducible rfl
  rotate_left
  ·simp only [Act.put, qa9, qb9, qc9, i64_w, i32_w]
   rfl
  refine pure_ (i := 21) (N := some 99) (v := ?_) (a' := ?_) q9_56 rfl rfl (any_of HT_.out (by kernel_rfl)) (fun _ _ _ h => h) (Or.inl ⟨by rfl, ?_⟩) ?_ ?_; rotate_left
  ·intro w'
   go_simp; with_reducible rfl
  rotate_left
  ·simp only [Act.put, qa9, qb9, qc9, i64_w, i32_w]
   rfl
  refine pure_ (i := 22) (N := some 100) (v := ?_) (a' := ?_) q9_57 rfl rfl (any_of HT_.out (by kernel_rfl)) (fun _ _ _ h => h) (Or.inl ⟨by rfl, ?_⟩) ?_ ?_; rotate_left
  ·intro w'
   go_simp; with_reducible rfl
  rotate_left
  ·simp only [Act.put, qa9, qb9, qc9, i64_w, i32_w]
   rfl
  refine take_ (i := 23) (N := some 101) (v := ?_) (a' := ?_) q9_58 rfl rfl (take_ofW HT_.out HW_.out (by kernel_rfl)) (fun _ _ _ h => h) (Or.inl ⟨by rfl, ?_⟩) hHeld ?_ ?_; rotate_left
  ·rintro w' ⟨s0, s1, s2, s3, s4, s5, s6, s7, s8, s9, s10, s11, s12, s13, s14, s15⟩
   go_simp; with_reducible rfl
  rotate_left
  ·simp only [Act.put, qa9, qb9, qc9, i64_w, i32_w]
   rfl
  refine take_ (i := 24) (N := some 102) (v := ?_) (a' := ?_) q9_59 rfl rfl (take_ofW HT_.out HW_.out (by kernel_rfl)) (fun _ _ _ h => h) (Or.inl ⟨by rfl, ?_⟩) hHeld ?_ ?_; rotate_left
  ·rintro w' ⟨s0, s1, s2, s3, s4, s5, s6, s7, s8, s9, s10, s11, s12, s13, s14, s15⟩
   go_simp; with_reducible rfl
  rotate_left
  ·simp only [Act.put, qa9, qb9, qc9, i64_w, i32_w]
   rfl
  refine one_ (i := 25) (N := some 103) q9_60 rfl rfl (one_of HT_.out (by kernel_rfl)) (by decide) (fun K hK => ?_)
  refine goes_ Try.func39 (by kernel_rfl) rfl #[.agg #[.slice Ao55 t120.length co55, .int .i64 t123], .agg #[.slice Ao64 t126.length co64, .int .i64 t129]] (by rfl) rfl rfl bE ?_
  with_reducible refine (laws_floats.calls k _ _ t120 t123 _ _ t126 t129 true _ ?side1 ?side2 ?side3 ?side4 A23.out).mono ?_
  (case side1 => exact bD ((Kd.R_reads' HO122.out).2.2))
  (case side2 => exact (Kd.R_reads' HO122.out).2.1)
  (case side3 => exact bD ((Kd.R_reads' HO128.out).2.2))
  (case side4 => exact (Kd.R_reads' HO128.out).2.1)
  rintro e w239 ⟨rfl, hb⟩
  refine ⟨_, rfl, ?_⟩
  replace HO103 := am (Kd.R_below (bC HO103.out) hb); replace HO108 := am (Kd.R_below (bC HO108.out) hb); replace HO111 := am (Kd.R_below (bC HO111.out) hb); replace HO116 := am (Kd.R_below (bC HO116.out) hb); replace HO122 := am (Kd.R_below (bC HO122.out) hb); replace HO128 := am (Kd.R_below (bC HO128.out) hb); replace HO134 := am (Kd.R_below (bC HO134.out) hb); replace HO140 := am (Kd.R_below (bC HO140.out) hb); replace HO144 := am (Kd.R_below (bC HO144.out) hb); replace HO150 := am (Kd.R_below (bC HO150.out) hb); replace HO156 := am (Kd.R_below (bC HO156.out) hb); replace HO162 := am (Kd.R_below (bC HO162.out) hb); replace HO166 := am (Kd.R_below (bC HO166.out) hb); replace HO170 := am (Kd.R_below (bC HO170.out) hb); replace BK105 := am (blk_below (bA BK105.out) hb); replace BK113 := am (blk_below (bA BK113.out) hb); replace BK119 := am (blk_below (bA BK119.out) hb); replace BK125 := am (blk_below (bA BK125.out) hb); replace BK131 := am (blk_below (bA BK131.out) hb); replace BK137 := am (blk_below (bA BK137.out) hb); replace BK147 := am (blk_below (bA BK147.out) hb); replace BK153 := am (blk_below (bA BK153.out) hb); replace BK159 := am (blk_below (bA BK159.out) hb); replace BK173 := am (blk_below (bA BK173.out) hb); replace HB := am (below_step (bB HB.out) hb); (try clear hb); (try clear hb2); (try clear hk); (try clear hi); clear A23
  refine hK.out _ _ ⟨(blk_cell BK125.out 0).trans rfl, (blk_cell BK125.out 1).trans rfl, (blk_cell BK131.out 0).trans rfl, (blk_cell BK131.out 1).trans rfl, (blk_cell BK137.out 0).trans rfl, (blk_cell BK137.out 1).trans rfl, (blk_cell BK147.out 0).trans rfl, (blk_cell BK147.out 1).trans rfl, (blk_cell BK153.out 0).trans rfl, (blk_cell BK153.out 1).trans rfl, (blk_cell BK119.out 0).trans rfl, (blk_cell BK119.out 1).trans rfl, (blk_cell BK159.out 0).trans rfl, (blk_cell BK159.out 1).trans rfl, (blk_cell BK105.out 0).trans rfl, (blk_cell BK105.out 1).trans rfl⟩ (fun hHeld => ?_)
  clear hK K
  refine norm_ (a' := ?_) ?_ ?_; rotate_left
  ·show Act.put _ (some 103) _ = _
   simp only [Act.put, qa9, qb9, qc9, i64_w, i32_w]
   rfl
  refine pure_ (i := 26) (N := some 104) (v := ?_) (a' := ?_) q9_61 rfl rfl (any_of HT_.out (by kernel_rfl)) (fun _ _ _ h => h) (Or.inl ⟨by rfl, ?_⟩) ?_ ?_; rotate_left
  ·intro w'
   go_simp; with_reducible rfl
  rotate_left
  ·simp only [Act.put, qa9, qb9, qc9, i64_w, i32_w]
   rfl
  refine pure_ (i := 27) (N := some 105) (v := ?_) (a' := ?_) q9_62 rfl rfl (any_of HT_.out (by kernel_rfl)) (fun _ _ _ h => h) (Or.inl ⟨by rfl, ?_⟩) ?_ ?_; rotate_left
  ·intro w'
   go_simp; with_reducible rfl
  rotate_left
  ·simp only [Act.put, qa9, qb9, qc9, i64_w, i32_w]
   rfl
  refine take_ (i := 28) (N := some 106) (v := ?_) (a' := ?_) q9_63 rfl rfl (take_ofW HT_.out HW_.out (by kernel_rfl)) (fun _ _ _ h => h) (Or.inl ⟨by rfl, ?_⟩) hHeld ?_ ?_; rotate_left
  ·rintro w' ⟨s0, s1, s2, s3, s4, s5, s6, s7, s8, s9, s10, s11, s12, s13, s14, s15⟩
   go_simp; with_reducible rfl
  rotate_left
  ·simp only [Act.put, qa9, qb9, qc9, i64_w, i32_w]
   rfl
  refine take_ (i := 29) (N := some 107) (v := ?_) (a' := ?_) q9_64 rfl rfl (take_ofW HT_.out HW_.out (by kernel_rfl)) (fun _ _ _ h => h) (Or.inl ⟨by rfl, ?_⟩) hHeld ?_ ?_; rotate_left
  ·rintro w' ⟨s0, s1, s2, s3, s4, s5, s6, s7, s8, s9, s10, s11, s12, s13, s14, s15⟩
   go_simp; with_reducible rfl
  rotate_left
  ·simp only [Act.put, qa9, qb9, qc9, i64_w, i32_w]
   rfl
  refine one_ (i := 30) (N := some 108) q9_65 rfl rfl (one_of HT_.out (by kernel_rfl)) (by decide) (fun K hK => ?_)
  refine goes_ Try.func39 (by kernel_rfl) rfl #[.agg #[.slice Ao74 t132.length co74, .int .i64 t135], .agg #[.slice Ao88 t142.length co88, .int .i64 t145]] (by rfl) rfl rfl bE ?_
  with_reducible refine (laws_floats.calls k _ _ t132 t135 _ _ t142 t145 true _ ?side1 ?side2 ?side3 ?side4 A25.out).mono ?_
  (case side1 => exact bD ((Kd.R_reads' HO134.out).2.2))
  (case side2 => exact (Kd.R_reads' HO134.out).2.1)
  (case side3 => exact bD ((Kd.R_reads' HO144.out).2.2))
  (case side4 => exact (Kd.R_reads' HO144.out).2.1)
  rintro e w240 ⟨rfl, hb⟩
  refine ⟨_, rfl, ?_⟩
  replace HO103 := am (Kd.R_below (bC HO103.out) hb); replace HO108 := am (Kd.R_below (bC HO108.out) hb); replace HO111 := am (Kd.R_below (bC HO111.out) hb); replace HO116 := am (Kd.R_below (bC HO116.out) hb); replace HO122 := am (Kd.R_below (bC HO122.out) hb); replace HO128 := am (Kd.R_below (bC HO128.out) hb); replace HO134 := am (Kd.R_below (bC HO134.out) hb); replace HO140 := am (Kd.R_below (bC HO140.out) hb); replace HO144 := am (Kd.R_below (bC HO144.out) hb); replace HO150 := am (Kd.R_below (bC HO150.out) hb); replace HO156 := am (Kd.R_below (bC HO156.out) hb); replace HO162 := am (Kd.R_below (bC HO162.out) hb); replace HO166 := am (Kd.R_below (bC HO166.out) hb); replace HO170 := am (Kd.R_below (bC HO170.out) hb); replace BK105 := am (blk_below (bA BK105.out) hb); replace BK113 := am (blk_below (bA BK113.out) hb); replace BK119 := am (blk_below (bA BK119.out) hb); replace BK125 := am (blk_below (bA BK125.out) hb); replace BK131 := am (blk_below (bA BK131.out) hb); replace BK137 := am (blk_below (bA BK137.out) hb); replace BK147 := am (blk_below (bA BK147.out) hb); replace BK153 := am (blk_below (bA BK153.out) hb); replace BK159 := am (blk_below (bA BK159.out) hb); replace BK173 := am (blk_below (bA BK173.out) hb); replace HB := am (below_step (bB HB.out) hb); (try clear hb); (try clear hb2); (try clear hk); (try clear hi); clear A25
  refine hK.out _ _ ⟨(blk_cell BK125.out 0).trans rfl, (blk_cell BK125.out 1).trans rfl, (blk_cell BK131.out 0).trans rfl, (blk_cell BK131.out 1).trans rfl, (blk_cell BK137.out 0).trans rfl, (blk_cell BK137.out 1).trans rfl, (blk_cell BK147.out 0).trans rfl, (blk_cell BK147.out 1).trans rfl, (blk_cell BK153.out 0).trans rfl, (blk_cell BK153.out 1).trans rfl, (blk_cell BK119.out 0).trans rfl, (blk_cell BK119.out 1).trans rfl, (blk_cell BK159.out 0).trans rfl, (blk_cell BK159.out 1).trans rfl, (blk_cell BK105.out 0).trans rfl, (blk_cell BK105.out 1).trans rfl⟩ (fun hHeld => ?_)
  clear hK K
  refine norm_ (a' := ?_) ?_ ?_; rotate_left
  ·show Act.put _ (some 108) _ = _
   simp only [Act.put, qa9, qb9, qc9, i64_w, i32_w]
   rfl
  refine pure_ (i := 31) (N := some 109) (v := ?_) (a' := ?_) q9_66 rfl rfl (any_of HT_.out (by kernel_rfl)) (fun _ _ _ h => h) (Or.inl ⟨by rfl, ?_⟩) ?_ ?_; rotate_left
  ·intro w'
   go_simp; with_reducible rfl
  rotate_left
  ·simp only [Act.put, qa9, qb9, qc9, i64_w, i32_w]
   rfl
  refine pure_ (i := 32) (N := some 110) (v := ?_) (a' := ?_) q9_67 rfl rfl (any_of HT_.out (by kernel_rfl)) (fun _ _ _ h => h) (Or.inl ⟨by rfl, ?_⟩) ?_ ?_; rotate_left
  ·intro w'
   go_simp; with_reducible rfl
  rotate_left
  ·simp only [Act.put, qa9, qb9, qc9, i64_w, i32_w]
   rfl
  refine take_ (i := 33) (N := some 111) (v := ?_) (a' := ?_) q9_68 rfl rfl (take_ofW HT_.out HW_.out (by kernel_rfl)) (fun _ _ _ h => h) (Or.inl ⟨by rfl, ?_⟩) hHeld ?_ ?_; rotate_left
  ·rintro w' ⟨s0, s1, s2, s3, s4, s5, s6, s7, s8, s9, s10, s11, s12, s13, s14, s15⟩
   go_simp; with_reducible rfl
  rotate_left
  ·simp only [Act.put, qa9, qb9, qc9, i64_w, i32_w]
   rfl
  refine take_ (i := 34) (N := some 112) (v := ?_) (a' := ?_) q9_69 rfl rfl (take_ofW HT_.out HW_.out (by kernel_rfl)) (fun _ _ _ h => h) (Or.inl ⟨by rfl, ?_⟩) hHeld ?_ ?_; rotate_left
  ·rintro w' ⟨s0, s1, s2, s3, s4, s5, s6, s7, s8, s9, s10, s11, s12, s13, s14, s15⟩
   go_simp; with_reducible rfl
  rotate_left
  ·simp only [Act.put, qa9, qb9, qc9, i64_w, i32_w]
   rfl
  refine one_ (i := 35) (N := some 113) q9_70 rfl rfl (one_of HT_.out (by kernel_rfl)) (by decide) (fun K hK => ?_)
  refine goes_ Try.func39 (by kernel_rfl) rfl #[.agg #[.slice Ao95 t148.length co95, .int .i64 t151], .agg #[.slice Ao47 t114.length co47, .int .i64 t117]] (by rfl) rfl rfl bE ?_
  with_reducible refine (laws_floats.calls k _ _ t148 t151 _ _ t114 t117 true _ ?side1 ?side2 ?side3 ?side4 A27.out).mono ?_
  (case side1 => exact bD ((Kd.R_reads' HO150.out).2.2))
  (case side2 => exact (Kd.R_reads' HO150.out).2.1)
  (case side3 => exact bD ((Kd.R_reads' HO116.out).2.2))
  (case side4 => exact (Kd.R_reads' HO116.out).2.1)
  rintro e w241 ⟨rfl, hb⟩
  refine ⟨_, rfl, ?_⟩
  replace HO103 := am (Kd.R_below (bC HO103.out) hb); replace HO108 := am (Kd.R_below (bC HO108.out) hb); replace HO111 := am (Kd.R_below (bC HO111.out) hb); replace HO116 := am (Kd.R_below (bC HO116.out) hb); replace HO122 := am (Kd.R_below (bC HO122.out) hb); replace HO128 := am (Kd.R_below (bC HO128.out) hb); replace HO134 := am (Kd.R_below (bC HO134.out) hb); replace HO140 := am (Kd.R_below (bC HO140.out) hb); replace HO144 := am (Kd.R_below (bC HO144.out) hb); replace HO150 := am (Kd.R_below (bC HO150.out) hb); replace HO156 := am (Kd.R_below (bC HO156.out) hb); replace HO162 := am (Kd.R_below (bC HO162.out) hb); replace HO166 := am (Kd.R_below (bC HO166.out) hb); replace HO170 := am (Kd.R_below (bC HO170.out) hb); replace BK105 := am (blk_below (bA BK105.out) hb); replace BK113 := am (blk_below (bA BK113.out) hb); replace BK119 := am (blk_below (bA BK119.out) hb); replace BK125 := am (blk_below (bA BK125.out) hb); replace BK131 := am (blk_below (bA BK131.out) hb); replace BK137 := am (blk_below (bA BK137.out) hb); replace BK147 := am (blk_below (bA BK147.out) hb); replace BK153 := am (blk_below (bA BK153.out) hb); replace BK159 := am (blk_below (bA BK159.out) hb); replace BK173 := am (blk_below (bA BK173.out) hb); replace HB := am (below_step (bB HB.out) hb); (try clear hb); (try clear hb2); (try clear hk); (try clear hi); clear A27
  refine hK.out _ _ ⟨(blk_cell BK125.out 0).trans rfl, (blk_cell BK125.out 1).trans rfl, (blk_cell BK131.out 0).trans rfl, (blk_cell BK131.out 1).trans rfl, (blk_cell BK137.out 0).trans rfl, (blk_cell BK137.out 1).trans rfl, (blk_cell BK147.out 0).trans rfl, (blk_cell BK147.out 1).trans rfl, (blk_cell BK153.out 0).trans rfl, (blk_cell BK153.out 1).trans rfl, (blk_cell BK119.out 0).trans rfl, (blk_cell BK119.out 1).trans rfl, (blk_cell BK159.out 0).trans rfl, (blk_cell BK159.out 1).trans rfl, (blk_cell BK105.out 0).trans rfl, (blk_cell BK105.out 1).trans rfl⟩ (fun hHeld => ?_)
  clear hK K
  refine norm_ (a' := ?_) ?_ ?_; rotate_left
  ·show Act.put _ (some 113) _ = _
   simp only [Act.put, qa9, qb9, qc9, i64_w, i32_w]
   rfl
  refine pure_ (i := 36) (N := some 114) (v := ?_) (a' := ?_) q9_71 rfl rfl (any_of HT_.out (by kernel_rfl)) (fun _ _ _ h => h) (Or.inl ⟨by rfl, ?_⟩) ?_ ?_; rotate_left
  ·intro w'
   go_simp; with_reducible rfl
  rotate_left
  ·simp only [Act.put, qa9, qb9, qc9, i64_w, i32_w]
   rfl
  refine pure_ (i := 37) (N := some 115) (v := ?_) (a' := ?_) q9_72 rfl rfl (any_of HT_.out (by kernel_rfl)) (fun _ _ _ h => h) (Or.inl ⟨by rfl, ?_⟩) ?_ ?_; rotate_left
  ·intro w'
   go_simp; with_reducible rfl
  rotate_left
  ·simp only [Act.put, qa9, qb9, qc9, i64_w, i32_w]
   rfl
  refine take_ (i := 38) (N := some 116) (v := ?_) (a' := ?_) q9_73 rfl rfl (take_ofW HT_.out HW_.out (by kernel_rfl)) (fun _ _ _ h => h) (Or.inl ⟨by rfl, ?_⟩) hHeld ?_ ?_; rotate_left
  ·rintro w' ⟨s0, s1, s2, s3, s4, s5, s6, s7, s8, s9, s10, s11, s12, s13, s14, s15⟩
   go_simp; with_reducible rfl
  rotate_left
  ·simp only [Act.put, qa9, qb9, qc9, i64_w, i32_w]
   rfl
  refine take_ (i := 39) (N := some 117) (v := ?_) (a' := ?_) q9_74 rfl rfl (take_ofW HT_.out HW_.out (by kernel_rfl)) (fun _ _ _ h => h) (Or.inl ⟨by rfl, ?_⟩) hHeld ?_ ?_; rotate_left
  ·rintro w' ⟨s0, s1, s2, s3, s4, s5, s6, s7, s8, s9, s10, s11, s12, s13, s14, s15⟩
   go_simp; with_reducible rfl
  rotate_left
  ·simp only [Act.put, qa9, qb9, qc9, i64_w, i32_w]
   rfl
  refine one_ (i := 40) (N := some 118) q9_75 rfl rfl (one_of HT_.out (by kernel_rfl)) (by decide) (fun K hK => ?_)
  refine goes_ Try.func39 (by kernel_rfl) rfl #[.agg #[.slice Ao109 t154.length co109, .int .i64 t157], .agg #[.slice Ao36 t101.length co36, .int .i64 t104]] (by rfl) rfl rfl bE ?_
  with_reducible refine (laws_floats.calls k _ _ t154 t157 _ _ t101 t104 true _ ?side1 ?side2 ?side3 ?side4 A29.out).mono ?_
  (case side1 => exact bD ((Kd.R_reads' HO156.out).2.2))
  (case side2 => exact (Kd.R_reads' HO156.out).2.1)
  (case side3 => exact bD ((Kd.R_reads' HO103.out).2.2))
  (case side4 => exact (Kd.R_reads' HO103.out).2.1)
  rintro e w242 ⟨rfl, hb⟩
  refine ⟨_, rfl, ?_⟩
  replace HO103 := am (Kd.R_below (bC HO103.out) hb); replace HO108 := am (Kd.R_below (bC HO108.out) hb); replace HO111 := am (Kd.R_below (bC HO111.out) hb); replace HO116 := am (Kd.R_below (bC HO116.out) hb); replace HO122 := am (Kd.R_below (bC HO122.out) hb); replace HO128 := am (Kd.R_below (bC HO128.out) hb); replace HO134 := am (Kd.R_below (bC HO134.out) hb); replace HO140 := am (Kd.R_below (bC HO140.out) hb); replace HO144 := am (Kd.R_below (bC HO144.out) hb); replace HO150 := am (Kd.R_below (bC HO150.out) hb); replace HO156 := am (Kd.R_below (bC HO156.out) hb); replace HO162 := am (Kd.R_below (bC HO162.out) hb); replace HO166 := am (Kd.R_below (bC HO166.out) hb); replace HO170 := am (Kd.R_below (bC HO170.out) hb); replace BK105 := am (blk_below (bA BK105.out) hb); replace BK113 := am (blk_below (bA BK113.out) hb); replace BK119 := am (blk_below (bA BK119.out) hb); replace BK125 := am (blk_below (bA BK125.out) hb); replace BK131 := am (blk_below (bA BK131.out) hb); replace BK137 := am (blk_below (bA BK137.out) hb); replace BK147 := am (blk_below (bA BK147.out) hb); replace BK153 := am (blk_below (bA BK153.out) hb); replace BK159 := am (blk_below (bA BK159.out) hb); replace BK173 := am (blk_below (bA BK173.out) hb); replace HB := am (below_step (bB HB.out) hb); (try clear hb); (try clear hb2); (try clear hk); (try clear hi); clear A29
  refine hK.out _ _ ⟨(blk_cell BK125.out 0).trans rfl, (blk_cell BK125.out 1).trans rfl, (blk_cell BK131.out 0).trans rfl, (blk_cell BK131.out 1).trans rfl, (blk_cell BK137.out 0).trans rfl, (blk_cell BK137.out 1).trans rfl, (blk_cell BK147.out 0).trans rfl, (blk_cell BK147.out 1).trans rfl, (blk_cell BK153.out 0).trans rfl, (blk_cell BK153.out 1).trans rfl, (blk_cell BK119.out 0).trans rfl, (blk_cell BK119.out 1).trans rfl, (blk_cell BK159.out 0).trans rfl, (blk_cell BK159.out 1).trans rfl, (blk_cell BK105.out 0).trans rfl, (blk_cell BK105.out 1).trans rfl⟩ (fun hHeld => ?_)
  clear hK K
  refine norm_ (a' := ?_) ?_ ?_; rotate_left
  ·show Act.put _ (some 118) _ = _
   simp only [Act.put, qa9, qb9, qc9, i64_w, i32_w]
   rfl
  refine pure_ (i := 41) (N := some 119) (v := ?_) (a' := ?_) q9_76 rfl rfl (any_of HT_.out (by kernel_rfl)) (fun _ _ _ h => h) (Or.inl ⟨by rfl, ?_⟩) ?_ ?_; rotate_left
  ·intro w'
   go_simp; with_reducible rfl
  rotate_left
  ·simp only [Act.put, qa9, qb9, qc9, i64_w, i32_w]
   rfl
  refine pure_ (i := 42) (N := some 120) (v := ?_) (a' := ?_) q9_77 rfl rfl (any_of HT_.out (by kernel_rfl)) (fun _ _ _ h => h) (Or.inl ⟨by rfl, ?_⟩) ?_ ?_; rotate_left
  ·intro w'
   go_simp; with_reducible rfl
  rotate_left
  ·simp only [Act.put, qa9, qb9, qc9, i64_w, i32_w]
   rfl
  refine pure_ (i := 43) (N := some 121) (v := ?_) (a' := ?_) q9_78 rfl rfl (any_of HT_.out (by kernel_rfl)) (fun _ _ _ h => h) (Or.inl ⟨by rfl, ?_⟩) ?_ ?_; rotate_left
  ·intro w'
   go_simp; with_reducible rfl
  rotate_left
  ·simp only [Act.put, qa9, qb9, qc9, i64_w, i32_w]
   rfl
  refine pure_ (i := 44) (N := some 122) (v := ?_) (a' := ?_) q9_79 rfl rfl (any_of HT_.out (by kernel_rfl)) (fun _ _ _ h => h) (Or.inl ⟨by rfl, ?_⟩) ?_ ?_; rotate_left
  ·intro w'
   go_simp; with_reducible rfl
  rotate_left
  ·simp only [Act.put, qa9, qb9, qc9, i64_w, i32_w]
   rfl
  refine pure_ (i := 45) (N := some 123) (v := ?_) (a' := ?_) q9_80 rfl rfl (any_of HT_.out (by kernel_rfl)) (fun _ _ _ h => h) (Or.inl ⟨by rfl, ?_⟩) ?_ ?_; rotate_left
  ·intro w'
   go_simp; with_reducible rfl
  rotate_left
  ·simp only [Act.put, qa9, qb9, qc9, i64_w, i32_w]
   rfl
  refine pure_ (i := 46) (N := some 124) (v := undef) (a' := ?_) q9_81 rfl rfl (any_of HT_.out (by kernel_rfl)) (fun _ _ _ h => h) (Or.inr ⟨by rfl, rfl⟩) ?_ ?_; rotate_left
  ·simp only [Act.put, qa9, qb9, qc9, i64_w, i32_w]
   rfl
  refine pure_ (i := 47) (N := some 125) (v := undef) (a' := ?_) q9_82 rfl rfl (any_of HT_.out (by kernel_rfl)) (fun _ _ _ h => h) (Or.inr ⟨by rfl, rfl⟩) ?_ ?_; rotate_left
  ·simp only [Act.put, qa9, qb9, qc9, i64_w, i32_w]
   rfl
  refine pure_ (i := 48) (N := some 126) (v := undef) (a' := ?_) q9_83 rfl rfl (any_of HT_.out (by kernel_rfl)) (fun _ _ _ h => h) (Or.inr ⟨by rfl, rfl⟩) ?_ ?_; rotate_left
  ·simp only [Act.put, qa9, qb9, qc9, i64_w, i32_w]
   rfl
  refine pure_ (i := 49) (N := some 127) (v := undef) (a' := ?_) q9_84 rfl rfl (any_of HT_.out (by kernel_rfl)) (fun _ _ _ h => h) (Or.inr ⟨by rfl, rfl⟩) ?_ ?_; rotate_left
  ·simp only [Act.put, qa9, qb9, qc9, i64_w, i32_w]
   rfl
  refine pure_ (i := 50) (N := some 128) (v := ?_) (a' := ?_) q9_85 rfl rfl (any_of HT_.out (by kernel_rfl)) (fun _ _ _ h => h) (Or.inl ⟨by rfl, ?_⟩) ?_ ?_; rotate_left
  ·intro w'
   go_simp; with_reducible rfl
  rotate_left
  ·simp only [Act.put, qa9, qb9, qc9, i64_w, i32_w]
   rfl
  refine pure_ (i := 51) (N := some 129) (v := ?_) (a' := ?_) q9_86 rfl rfl (any_of HT_.out (by kernel_rfl)) (fun _ _ _ h => h) (Or.inl ⟨by rfl, ?_⟩) ?_ ?_; rotate_left
  ·intro w'
   go_simp; with_reducible rfl
  rotate_left
  ·simp only [Act.put, qa9, qb9, qc9, i64_w, i32_w]
   rfl
  refine pure_ (i := 52) (N := some 2) (v := ?_) (a' := ?_) q9_87 rfl rfl (any_of HT_.out (by kernel_rfl)) (fun _ _ _ h => h) (Or.inl ⟨by rfl, ?_⟩) ?_ ?_; rotate_left
  ·intro w'
   go_simp; with_reducible rfl
  rotate_left
  ·simp only [Act.put, qa9, qb9, qc9, i64_w, i32_w]
   rfl
  refine done_ (done_of HT_.out (by kernel_rfl)) ?_
  try go_wp2
  go_ret
  exact ⟨by first | rfl | (simp [errW_none, errW_some] <;> rfl) | (simp [*, errW_none, errW_some] <;> rfl), bB HB.out⟩
end Go.Proofs.Ytiamngcapghmdaa.P
