-- printed by base.py (this claim's tool) over the kit's print
import Derived.Test.YtlmchfcfkfegaaaB0
import Derived.Test.YtlmchfcfkfegaaaSq
import Derived.Test.YtlmchfcfkfegaaaPkA
import Derived.Test.YtlmchfcfkfegaaaPkB
import Derived.Test.YtlmchfcfkfegaaaPkC
import Derived.Test.YtlmchfcfkfegaaaF14
namespace Go.Proofs.Ytlmchfcfkfegaaa.B
open Go.RowKit Go.Proofs.YtlmchfcfkfegaaaW.PrintWords Go.Proofs.YtlmchfcfkfegaaaW.PrintLast Go.Proofs.YtlmchfcfkfegaaaW.PrintMore
attribute [local go_sem] max2_int min2_int max_two min_two max_three min_three max_four min_four   -- for this text's walks alone
set_option linter.unusedVariables false
set_option linter.unusedSimpArgs false

/-! ### laws_FnExactChartOk: function 4 -/
def laws_FnExactChartOk.f (k : Nat) (a0_0 : Int) (l0_1 : List (S151)) (l0_2 : List (S155)) : Option (Bool) := (laws_szChart.f k a0_0 l0_1 l0_2 1048576).bind fun t335 => (if t335 < 0 then (some true) else ((laws_toChart.f k a0_0 l0_1 l0_2).bind fun bt336 => ((spec_ChartOk.f k bt336.1 bt336.2.1 bt336.2.2).bind fun t343 => ((laws_toChart.f k a0_0 l0_1 l0_2).bind fun bt344 => ((impl_ChartOk.f bt344.1 bt344.2.1 bt344.2.2).bind fun t352 => (if (t352 != t343) = true then (some false) else ((laws_toChart.f k a0_0 l0_1 l0_2).bind fun bt353 => ((laws_eqChart.f k bt344.1 bt344.2.1 bt344.2.2 bt353.1 bt353.2.1 bt353.2.2).bind fun t360 => (if t360 = true then (some true) else (some false))))))))))
set_option maxHeartbeats 8000000 in
set_option maxRecDepth 100000 in
theorem laws_FnExactChartOk.calls (k : Nat) (a0_0 : Int) (A0_1 : Option Addr) (c0_1 : Nat) (l0_1 : List (S151)) (A0_2 : Option Addr) (c0_2 : Nat) (l0_2 : List (S155)) (r : Bool) (w : World) (hr0_1 : Kd.C k151 w A0_1 l0_1.length l0_1) (hc0_1 : l0_1.length ≤ c0_1) (hr0_2 : Kd.C k155 w A0_2 l0_2.length l0_2) (hc0_2 : l0_2.length ≤ c0_2) (h : laws_FnExactChartOk.f k a0_0 l0_1 l0_2 = some r) :
  Calls Try.prog 4 #[.agg #[.int .i64 a0_0, .slice A0_1 l0_1.length c0_1, .slice A0_2 l0_2.length c0_2]] w fun e w' => e = .returned (.bool r) ∧ Below w.heap.size w w' := by
 have hu25 := Try.underlying25
 have hu31 := Try.underlying31
 have HR0_1 := z0 hr0_1
 have HC0_1 := z0 hc0_1
 clear hr0_1 hc0_1
 have HR0_2 := z0 hr0_2
 have HC0_2 := z0 hc0_2
 clear hr0_2 hc0_2
 have HB := z0 (Below.refl w.heap.size w)
 have H : ((laws_szChart.f k a0_0 l0_1 l0_2 1048576).bind fun t335 => (if t335 < 0 then (some true) else ((laws_toChart.f k a0_0 l0_1 l0_2).bind fun bt336 => ((spec_ChartOk.f k bt336.1 bt336.2.1 bt336.2.2).bind fun t343 => ((laws_toChart.f k a0_0 l0_1 l0_2).bind fun bt344 => ((impl_ChartOk.f bt344.1 bt344.2.1 bt344.2.2).bind fun t352 => (if (t352 != t343) = true then (some false) else ((laws_toChart.f k a0_0 l0_1 l0_2).bind fun bt353 => ((laws_eqChart.f k bt344.1 bt344.2.1 bt344.2.2 bt353.1 bt353.2.1 bt353.2.2).bind fun t360 => (if t360 = true then (some true) else (some false))))))))))) = some r := h
 clear h
 replace H := Option.bind_eq_some_iff.mp H
 obtain ⟨t335, A20, H⟩ := H
 replace H : (if t335 < 0 then (some true) else ((laws_toChart.f k a0_0 l0_1 l0_2).bind fun bt336 => ((spec_ChartOk.f k bt336.1 bt336.2.1 bt336.2.2).bind fun t343 => ((laws_toChart.f k a0_0 l0_1 l0_2).bind fun bt344 => ((impl_ChartOk.f bt344.1 bt344.2.1 bt344.2.2).bind fun t352 => (if (t352 != t343) = true then (some false) else ((laws_toChart.f k a0_0 l0_1 l0_2).bind fun bt353 => ((laws_eqChart.f k bt344.1 bt344.2.1 bt344.2.2 bt353.1 bt353.2.1 bt353.2.2).bind fun t360 => (if t360 = true then (some true) else (some false)))))))))) = some r := H
 have A2 := z0 A20
 clear A20
 have HF3 := z0 H
 clear H
 go_enter Try.func4, Try.ntmps4
 go_upto_if 11 with (first | ((with_reducible refine gate_dst (N := 1) rfl ?_); refine box_event ?hg (N := 1) ?hd (cs := #[.int .i64 a0_0, .slice A0_1 l0_1.length c0_1, .slice A0_2 l0_2.length c0_2]) (t := 25) ?hr ?_; (case hd => rfl); (case hg => rfl); (case hr => first | (go_simp; done) | (go_simp; rfl)); intro gb334 hg w4 hbox hb; have n0_ := z0 (below_step (mB HB.out) hb); have n1_ := z0 (hbox); have n2_ := z0 ((by rw [hg]; exact (below_size (mB HB.out)) : w.heap.size ≤ gb334)); have n3_ := z0 ((by rw [hg]; exact (below_size (mB HB.out)) : w.heap.size ≤ gb334)); clear HB; have HB := n0_; have BK334 := n1_; have GW334 := n2_; have GE334 := n3_; clear n0_ n1_ n2_ n3_; clear hb hbox hg; obtain ⟨hcz5_0, hcz5_1, hcz5_2, hfz5_0, hfz5_1, hfz5_2⟩ := cel3 BK334.out) | ((with_reducible refine gate_callee (f := 8) rfl ?_); refine goesL_ (some 9) rfl rfl Try.func8 (by kernel_rfl) rfl #[.agg #[.int .i64 a0_0, .slice A0_1 l0_1.length c0_1, .slice A0_2 l0_2.length c0_2], .int .i64 1048576] rfl argx ?_; (with_reducible refine (laws_szChart.calls k a0_0 _ _ l0_1 _ _ l0_2 1048576 t335 _ ?side1 ?side2 ?side3 ?side4 A2.out).mono ?_); (case side1 => exact mC (Kd.C_below HR0_1.out HB.out)); (case side2 => exact HC0_1.out); (case side3 => exact mC (Kd.C_below HR0_2.out HB.out)); (case side4 => exact HC0_2.out); rintro e w6 ⟨rfl, hb⟩; refine ⟨_, rfl, ?_⟩; have n0_ := z0 (blk_below (g := gb334) (o := .cells #[.int .i64 a0_0, .slice A0_1 l0_1.length c0_1, .slice A0_2 l0_2.length c0_2] 25 (0, 0)) (mK BK334.out) hb); have n1_ := z0 (below_step (mB HB.out) hb); clear BK334; clear HB; have BK334 := n0_; have HB := n1_; clear n0_ n1_; (try clear hb); (try clear hb2); (try clear hk); (try clear hi)))
 (try simp only [Act.put, List.setIfInBounds_toArray, List.set_cons_zero, List.set_cons_succ])
 have H := HF3.out
 clear HF3
 (try clear c4); (try clear hcz5_0); (try clear hcz5_1); (try clear hcz5_2); (try clear hfz5_0); (try clear hfz5_1); (try clear hfz5_2)
 by_cases c7 : t335 < 0
 ·rw [if_pos c7] at H
  have c7b0 : decide (t335 < 0) = true := decide_eq_true c7
  clear c7
  (first | rw [c7b0] | (simp only [i64_w, i32_w]; rw [c7b0]) | skip)
  obtain rfl := Option.some.inj H
  go_wp2
  go_ret
  exact ⟨rfx, mB HB.out⟩
 ·rw [if_neg c7] at H
  have c7b0 : decide (t335 < 0) = false := decide_eq_false c7
  clear c7
  (first | rw [c7b0] | (simp only [i64_w, i32_w]; rw [c7b0]) | skip)
  replace H := Option.bind_eq_some_iff.mp H
  obtain ⟨⟨t336, t337, t340⟩, A80, H⟩ := H
  replace H : ((spec_ChartOk.f k t336 t337 t340).bind fun t343 => ((laws_toChart.f k a0_0 l0_1 l0_2).bind fun bt344 => ((impl_ChartOk.f bt344.1 bt344.2.1 bt344.2.2).bind fun t352 => (if (t352 != t343) = true then (some false) else ((laws_toChart.f k a0_0 l0_1 l0_2).bind fun bt353 => ((laws_eqChart.f k bt344.1 bt344.2.1 bt344.2.2 bt353.1 bt353.2.1 bt353.2.2).bind fun t360 => (if t360 = true then (some true) else (some false)))))))) = some r := H
  have A8 := z0 A80
  clear A80
  replace H := Option.bind_eq_some_iff.mp H
  obtain ⟨t343, A90, H⟩ := H
  replace H : ((laws_toChart.f k a0_0 l0_1 l0_2).bind fun bt344 => ((impl_ChartOk.f bt344.1 bt344.2.1 bt344.2.2).bind fun t352 => (if (t352 != t343) = true then (some false) else ((laws_toChart.f k a0_0 l0_1 l0_2).bind fun bt353 => ((laws_eqChart.f k bt344.1 bt344.2.1 bt344.2.2 bt353.1 bt353.2.1 bt353.2.2).bind fun t360 => (if t360 = true then (some true) else (some false))))))) = some r := H
  have A9 := z0 A90
  clear A90
  replace H := Option.bind_eq_some_iff.mp H
  obtain ⟨⟨t344, t345, t348⟩, A100, H⟩ := H
  replace H : ((impl_ChartOk.f t344 t345 t348).bind fun t352 => (if (t352 != t343) = true then (some false) else ((laws_toChart.f k a0_0 l0_1 l0_2).bind fun bt353 => ((laws_eqChart.f k t344 t345 t348 bt353.1 bt353.2.1 bt353.2.2).bind fun t360 => (if t360 = true then (some true) else (some false)))))) = some r := H
  have A10 := z0 A100
  clear A100
  replace H := Option.bind_eq_some_iff.mp H
  obtain ⟨t352, A110, H⟩ := H
  replace H : (if (t352 != t343) = true then (some false) else ((laws_toChart.f k a0_0 l0_1 l0_2).bind fun bt353 => ((laws_eqChart.f k t344 t345 t348 bt353.1 bt353.2.1 bt353.2.2).bind fun t360 => (if t360 = true then (some true) else (some false))))) = some r := H
  have A11 := z0 A110
  clear A110
  have HF12 := z0 H
  clear H
  obtain ⟨hcz13_0, hcz13_1, hcz13_2, hfz13_0, hfz13_1, hfz13_2⟩ := cel3 BK334.out
  go_upto_if 21 with (first | ((with_reducible refine gate_callee (f := 10) rfl ?_); refine goesL_ (some 13) rfl rfl Try.func10 (by kernel_rfl) rfl #[.agg #[.int .i64 a0_0, .slice A0_1 l0_1.length c0_1, .slice A0_2 l0_2.length c0_2]] rfl argx ?_; (with_reducible refine (laws_toChart.calls k a0_0 _ _ l0_1 _ _ l0_2 t336 t337 t340 _ ?side1 ?side2 ?side3 ?side4 A8.out).mono ?_); (case side1 => exact mC (Kd.C_below HR0_1.out HB.out)); (case side2 => exact HC0_1.out); (case side3 => exact mC (Kd.C_below HR0_2.out HB.out)); (case side4 => exact HC0_2.out); rintro e w14 ⟨v338, v341, rfl, ho0, ho1, hb⟩; refine ⟨_, rfl, ?_⟩; have n0_ := z0 (Kd.R_lower ho0 (below_size (mB HB.out))); have n1_ := z0 (Kd.R_lower ho1 (below_size (mB HB.out))); have n2_ := z0 (blk_below (g := gb334) (o := .cells #[.int .i64 a0_0, .slice A0_1 l0_1.length c0_1, .slice A0_2 l0_2.length c0_2] 25 (0, 0)) (mK BK334.out) hb); have n3_ := z0 (below_step (mB HB.out) hb); clear BK334; clear HB; have HO339 := n0_; have HO342 := n1_; have BK334 := n2_; have HB := n3_; clear n0_ n1_ n2_ n3_; (try clear hb); (try clear hb2); (try clear hk); (try clear hi); (try clear ho0); (try clear ho1); obtain ⟨Ao15, co15, eo15⟩ := Kd.R_slice HO339.out; subst eo15; obtain ⟨Ao16, co16, eo16⟩ := Kd.R_slice HO342.out; subst eo16) | ((with_reducible refine gate_callee (f := 13) rfl ?_); refine goesL_ (some 14) rfl rfl Try.func13 (by kernel_rfl) rfl #[.agg #[.int .i64 t336, .slice Ao15 t337.length co15, .slice Ao16 t340.length co16]] rfl argx ?_; (with_reducible refine (spec_ChartOk.calls k t336 _ _ t337 _ _ t340 t343 _ ?side1 ?side2 ?side3 ?side4 A9.out).mono ?_); (case side1 => exact mC (Kd.R_reads' HO339.out).2.2); (case side2 => exact (Kd.R_reads' HO339.out).2.1); (case side3 => exact mC (Kd.R_reads' HO342.out).2.2); (case side4 => exact (Kd.R_reads' HO342.out).2.1); rintro e w17 ⟨rfl, hb⟩; refine ⟨_, rfl, ?_⟩; have n0_ := z0 (Kd.R_below (mR HO339.out) hb); have n1_ := z0 (Kd.R_below (mR HO342.out) hb); have n2_ := z0 (blk_below (g := gb334) (o := .cells #[.int .i64 a0_0, .slice A0_1 l0_1.length c0_1, .slice A0_2 l0_2.length c0_2] 25 (0, 0)) (mK BK334.out) hb); have n3_ := z0 (below_step (mB HB.out) hb); clear HO339; clear HO342; clear BK334; clear HB; have HO339 := n0_; have HO342 := n1_; have BK334 := n2_; have HB := n3_; clear n0_ n1_ n2_ n3_; (try clear hb); (try clear hb2); (try clear hk); (try clear hi); obtain ⟨hcz18_0, hcz18_1, hcz18_2, hfz18_0, hfz18_1, hfz18_2⟩ := cel3 BK334.out) | ((with_reducible refine gate_callee (f := 10) rfl ?_); refine goesL_ (some 16) rfl rfl Try.func10 (by kernel_rfl) rfl #[.agg #[.int .i64 a0_0, .slice A0_1 l0_1.length c0_1, .slice A0_2 l0_2.length c0_2]] rfl argx ?_; (with_reducible refine (laws_toChart.calls k a0_0 _ _ l0_1 _ _ l0_2 t344 t345 t348 _ ?side1 ?side2 ?side3 ?side4 A10.out).mono ?_); (case side1 => exact mC (Kd.C_below HR0_1.out HB.out)); (case side2 => exact HC0_1.out); (case side3 => exact mC (Kd.C_below HR0_2.out HB.out)); (case side4 => exact HC0_2.out); rintro e w19 ⟨v346, v349, rfl, ho0, ho1, hb⟩; refine ⟨_, rfl, ?_⟩; have n0_ := z0 (Kd.R_elder' (mR HO339.out) (by first | exact Kd.R_base ho0 | exact Kd.R_base ho0) hb); have n1_ := z0 (Kd.R_elder' (mR HO342.out) (by first | exact Kd.R_base ho1 | exact Kd.R_base ho1) hb); have n2_ := z0 (Kd.R_lower (Kd.R_new' ho0 (Kd.R_lt (mR HO339.out))) (below_size (mB HB.out))); have n3_ := z0 (Kd.R_lower (Kd.R_new' ho1 (Kd.R_lt (mR HO342.out))) (below_size (mB HB.out))); have n4_ := z0 (blk_below (g := gb334) (o := .cells #[.int .i64 a0_0, .slice A0_1 l0_1.length c0_1, .slice A0_2 l0_2.length c0_2] 25 (0, 0)) (mK BK334.out) hb); have n5_ := z0 (below_step (mB HB.out) hb); clear HO339; clear HO342; clear BK334; clear HB; have HO339 := n0_; have HO342 := n1_; have HO347 := n2_; have HO350 := n3_; have BK334 := n4_; have HB := n5_; clear n0_ n1_ n2_ n3_ n4_ n5_; (try clear hb); (try clear hb2); (try clear hk); (try clear hi); (try clear ho0); (try clear ho1)) | ((with_reducible refine gate_dst (N := 5) rfl ?_); refine box_event ?hg (N := 5) ?hd (cs := #[.int .i64 0, .slice none 0 0, .slice none 0 0]) (t := 31) ?hr ?_; (case hd => rfl); (case hg => rfl); (case hr => first | (go_simp; done) | (go_simp; rfl)); intro gb351 hg w20 hbox hb; have n0_ := z0 (Kd.R_below (mR HO339.out) hb); have n1_ := z0 (Kd.R_below (mR HO342.out) hb); have n2_ := z0 (Kd.R_below (mR HO347.out) hb); have n3_ := z0 (Kd.R_below (mR HO350.out) hb); have n4_ := z0 (blk_below (g := gb334) (o := .cells #[.int .i64 a0_0, .slice A0_1 l0_1.length c0_1, .slice A0_2 l0_2.length c0_2] 25 (0, 0)) (mK BK334.out) hb); have n5_ := z0 (below_step (mB HB.out) hb); have n6_ := z0 (hbox); have n7_ := z0 ((by rw [hg]; exact (below_size (mB HB.out)) : w.heap.size ≤ gb351)); have n8_ := z0 ((by rw [hg]; exact (below_size (mB HB.out)) : w.heap.size ≤ gb351)); have n9_ := z0 ((by rw [hg]; exact Nat.ne_of_lt (blk_lt (g := gb334) (o := .cells #[.int .i64 a0_0, .slice A0_1 l0_1.length c0_1, .slice A0_2 l0_2.length c0_2] 25 (0, 0)) (mK BK334.out)) : gb334 ≠ gb351)); have n10_ := z0 ((by rw [hg]; exact Nat.ne_of_gt (blk_lt (g := gb334) (o := .cells #[.int .i64 a0_0, .slice A0_1 l0_1.length c0_1, .slice A0_2 l0_2.length c0_2] 25 (0, 0)) (mK BK334.out)) : gb351 ≠ gb334)); clear HO339; clear HO342; clear HO347; clear HO350; clear BK334; clear HB; have HO339 := n0_; have HO342 := n1_; have HO347 := n2_; have HO350 := n3_; have BK334 := n4_; have HB := n5_; have BK351 := n6_; have GW351 := n7_; have GE351 := n8_; have NB334_351 := n9_; have NB351_334 := n10_; clear n0_ n1_ n2_ n3_ n4_ n5_ n6_ n7_ n8_ n9_ n10_; clear hb hbox hg; have hnb21 := NB351_334.out; have hnc21 := NB334_351.out; obtain ⟨hcz22_0, hcz22_1, hcz22_2, hfz22_0, hfz22_1, hfz22_2⟩ := cel3 BK351.out; obtain ⟨Ao23, co23, eo23⟩ := Kd.R_slice HO347.out; subst eo23; obtain ⟨Ao24, co24, eo24⟩ := Kd.R_slice HO350.out; subst eo24) | ((with_reducible refine gate_callee (f := 14) rfl ?_); refine goesL_ (some 18) rfl rfl Try.func14 (by kernel_rfl) rfl #[.agg #[.int .i64 t344, .slice Ao23 t345.length co23, .slice Ao24 t348.length co24]] rfl argx ?_; (with_reducible refine (impl_ChartOk.calls t344 _ _ t345 _ _ t348 t352 _ ?side1 ?side2 ?side3 ?side4 A11.out).mono ?_); (case side1 => refine (Kd.R_reads' (e := 52) (base := w.heap.size) (ok := fun k_ => (True ∧ nB k_ (.slice Ao15 t337.length co15))) (n := t345.length) (c := co23) ?_).2.2; exact (by (with_reducible repeat (first | apply Kd.R_alloc | apply Kd.R_drewN | apply Kd.R_drew)); exact (Kd.R_mono (Kd.R_far (p := ⟨gb351, 2, none⟩) (Kd.R_far (p := ⟨gb351, 1, none⟩) (Kd.R_far (p := ⟨gb351, 0, none⟩) (Kd.R_types HO347.out BK351.out (by decide)) (fun _ hk => hk.2) (.int .i64 t344)) (fun _ hk => hk.2) (.slice Ao23 t345.length co23)) (fun _ hk => hk.2) (.slice Ao24 t348.length co24)) (fun _ h_ => h_.1)))); (case side2 => exact (Kd.R_reads' HO347.out).2.1); (case side3 => refine (Kd.R_reads' (e := 92) (base := w.heap.size) (ok := fun k_ => (True ∧ nB k_ (.slice Ao16 t340.length co16))) (n := t348.length) (c := co24) ?_).2.2; exact (by (with_reducible repeat (first | apply Kd.R_alloc | apply Kd.R_drewN | apply Kd.R_drew)); exact (Kd.R_mono (Kd.R_far (p := ⟨gb351, 2, none⟩) (Kd.R_far (p := ⟨gb351, 1, none⟩) (Kd.R_far (p := ⟨gb351, 0, none⟩) (Kd.R_types HO350.out BK351.out (by decide)) (fun _ hk => hk.2) (.int .i64 t344)) (fun _ hk => hk.2) (.slice Ao23 t345.length co23)) (fun _ hk => hk.2) (.slice Ao24 t348.length co24)) (fun _ h_ => h_.1)))); (case side4 => exact (Kd.R_reads' HO350.out).2.1); rintro e w25 ⟨rfl, hb⟩; refine ⟨_, rfl, ?_⟩; have n0_ := z0 (Kd.R_below (by (with_reducible repeat (first | apply Kd.R_alloc | apply Kd.R_drewN | apply Kd.R_drew)); exact (Kd.R_mono (Kd.R_far (p := ⟨gb351, 2, none⟩) (Kd.R_far (p := ⟨gb351, 1, none⟩) (Kd.R_far (p := ⟨gb351, 0, none⟩) (Kd.R_types HO339.out BK351.out (by decide)) (fun _ hk => hk.2) (.int .i64 t344)) (fun _ hk => hk.2) (.slice Ao23 t345.length co23)) (fun _ hk => hk.2) (.slice Ao24 t348.length co24)) (fun _ h_ => h_.1))) hb); have n1_ := z0 (Kd.R_below (by (with_reducible repeat (first | apply Kd.R_alloc | apply Kd.R_drewN | apply Kd.R_drew)); exact (Kd.R_mono (Kd.R_far (p := ⟨gb351, 2, none⟩) (Kd.R_far (p := ⟨gb351, 1, none⟩) (Kd.R_far (p := ⟨gb351, 0, none⟩) (Kd.R_types HO342.out BK351.out (by decide)) (fun _ hk => hk.2) (.int .i64 t344)) (fun _ hk => hk.2) (.slice Ao23 t345.length co23)) (fun _ hk => hk.2) (.slice Ao24 t348.length co24)) (fun _ h_ => h_.1))) hb); have n2_ := z0 (Kd.R_below (by (with_reducible repeat (first | apply Kd.R_alloc | apply Kd.R_drewN | apply Kd.R_drew)); exact (Kd.R_mono (Kd.R_far (p := ⟨gb351, 2, none⟩) (Kd.R_far (p := ⟨gb351, 1, none⟩) (Kd.R_far (p := ⟨gb351, 0, none⟩) (Kd.R_types HO347.out BK351.out (by decide)) (fun _ hk => hk.2) (.int .i64 t344)) (fun _ hk => hk.2) (.slice Ao23 t345.length co23)) (fun _ hk => hk.2) (.slice Ao24 t348.length co24)) (fun _ h_ => h_.1))) hb); have n3_ := z0 (Kd.R_below (by (with_reducible repeat (first | apply Kd.R_alloc | apply Kd.R_drewN | apply Kd.R_drew)); exact (Kd.R_mono (Kd.R_far (p := ⟨gb351, 2, none⟩) (Kd.R_far (p := ⟨gb351, 1, none⟩) (Kd.R_far (p := ⟨gb351, 0, none⟩) (Kd.R_types HO350.out BK351.out (by decide)) (fun _ hk => hk.2) (.int .i64 t344)) (fun _ hk => hk.2) (.slice Ao23 t345.length co23)) (fun _ hk => hk.2) (.slice Ao24 t348.length co24)) (fun _ h_ => h_.1))) hb); have n4_ := z0 (blk_below (g := gb334) (o := .cells #[.int .i64 a0_0, .slice A0_1 l0_1.length c0_1, .slice A0_2 l0_2.length c0_2] 25 (0, 0)) (by (with_reducible repeat (first | refine blk_drewN ?_ _ | refine blk_drew ?_ | refine blk_alloc ?_ _)); refine blk_far ?_ NB334_351.out _; (with_reducible repeat (first | refine blk_drewN ?_ _ | refine blk_drew ?_ | refine blk_alloc ?_ _)); refine blk_far ?_ NB334_351.out _; (with_reducible repeat (first | refine blk_drewN ?_ _ | refine blk_drew ?_ | refine blk_alloc ?_ _)); refine blk_far ?_ NB334_351.out _; (with_reducible repeat (first | refine blk_drewN ?_ _ | refine blk_drew ?_ | refine blk_alloc ?_ _)); exact BK334.out) hb); have n5_ := z0 (blk_below (g := gb351) (o := .cells #[.int .i64 t344, .slice Ao23 t345.length co23, .slice Ao24 t348.length co24] 31 (0, 0)) (by (with_reducible repeat (first | refine blk_drewN ?_ _ | refine blk_drew ?_ | refine blk_alloc ?_ _)); refine blk_put (cs := #[.int .i64 t344, .slice Ao23 t345.length co23, .slice none 0 0]) ?_ 2 _ rfl; (with_reducible repeat (first | refine blk_drewN ?_ _ | refine blk_drew ?_ | refine blk_alloc ?_ _)); refine blk_put (cs := #[.int .i64 t344, .slice none 0 0, .slice none 0 0]) ?_ 1 _ rfl; (with_reducible repeat (first | refine blk_drewN ?_ _ | refine blk_drew ?_ | refine blk_alloc ?_ _)); refine blk_put (cs := #[.int .i64 0, .slice none 0 0, .slice none 0 0]) ?_ 0 _ rfl; (with_reducible repeat (first | refine blk_drewN ?_ _ | refine blk_drew ?_ | refine blk_alloc ?_ _)); exact BK351.out) hb); have n6_ := z0 (below_step (mB HB.out) hb); clear HO339; clear HO342; clear HO347; clear HO350; clear BK334; clear BK351; clear HB; have HO339 := n0_; have HO342 := n1_; have HO347 := n2_; have HO350 := n3_; have BK334 := n4_; have BK351 := n5_; have HB := n6_; clear n0_ n1_ n2_ n3_ n4_ n5_ n6_; (try clear hb); (try clear hb2); (try clear hk); (try clear hi)))
  (try simp only [Act.put, List.setIfInBounds_toArray, List.set_cons_zero, List.set_cons_succ])
  have H := HF12.out
  clear HF12
  (try clear c1); (try clear c2); (try clear p2); (try clear c4); (try clear c7); (try clear c7b0); (try clear c8); (try clear c10); (try clear c13); (try clear c14); (try clear c21); (try clear hcz13_0); (try clear hcz13_1); (try clear hcz13_2); (try clear hcz18_0); (try clear hcz18_1); (try clear hcz18_2); (try clear hcz22_0); (try clear hcz22_1); (try clear hcz22_2); (try clear hcz5_0); (try clear hcz5_1); (try clear hcz5_2); (try clear hfz13_0); (try clear hfz13_1); (try clear hfz13_2); (try clear hfz18_0); (try clear hfz18_1); (try clear hfz18_2); (try clear hfz22_0); (try clear hfz22_1); (try clear hfz22_2); (try clear hfz5_0); (try clear hfz5_1); (try clear hfz5_2)
  by_cases c26 : (t352 != t343) = true
  ·rw [if_pos c26] at H
   have c26b0 : (t352 != t343) = true := c26
   (try (have c26b4 : (!(t352 == t343)) = true := by revert c26; cases t352 <;> cases t343 <;> decide))
   (try (have c26b1 : decide (t352 = t343) = false := by simpa using c26))
   (try (have c26b2 : (t352 == t343) = false := by simpa using c26))
   (try (have c26b3 : ¬ (t352 = t343) := by simpa using c26))
   clear c26
   (first | rw [c26b0] | (simp only [i64_w, i32_w]; rw [c26b0]) | rw [c26b4] | skip)
   obtain rfl := Option.some.inj H
   go_wp2
   go_ret
   exact ⟨rfx, mB HB.out⟩
  ·rw [if_neg c26] at H
   have c26b0 : (t352 != t343) = false := by simpa using c26
   (try (have c26b4 : (!(t352 == t343)) = false := by revert c26; cases t352 <;> cases t343 <;> decide))
   (try (have c26b1 : decide (t352 = t343) = true := by simpa using c26))
   (try (have c26b2 : (t352 == t343) = true := by simpa using c26))
   clear c26
   (first | rw [c26b0] | (simp only [i64_w, i32_w]; rw [c26b0]) | rw [c26b4] | skip)
   replace H := Option.bind_eq_some_iff.mp H
   obtain ⟨⟨t353, t354, t357⟩, A270, H⟩ := H
   replace H : ((laws_eqChart.f k t344 t345 t348 t353 t354 t357).bind fun t360 => (if t360 = true then (some true) else (some false))) = some r := H
   have A27 := z0 A270
   clear A270
   replace H := Option.bind_eq_some_iff.mp H
   obtain ⟨t360, A280, H⟩ := H
   replace H : (if t360 = true then (some true) else (some false)) = some r := H
   have A28 := z0 A280
   clear A280
   have HF29 := z0 H
   clear H
   try go_wp2
   have n0_ := z0 (Kd.R_drew HO339.out)
   have n1_ := z0 (Kd.R_drew HO342.out)
   have n2_ := z0 (Kd.R_drew HO347.out)
   have n3_ := z0 (Kd.R_drew HO350.out)
   have n4_ := z0 (blk_drew BK334.out)
   have n5_ := z0 (blk_drew BK351.out)
   have n6_ := z0 (below_drew1 HB.out)
   clear HO339 HO342 HO347 HO350 BK334 BK351 HB
   have HO339 := n0_
   have HO342 := n1_
   have HO347 := n2_
   have HO350 := n3_
   have BK334 := n4_
   have BK351 := n5_
   have HB := n6_
   clear n0_ n1_ n2_ n3_ n4_ n5_ n6_
   refine start_ (n := 5) (S := fun w' => w'.cell? ⟨gb351, 0, none⟩ = some (.int .i64 t344) ∧ w'.cell? ⟨gb351, 1, none⟩ = some (.slice Ao23 t345.length co23) ∧ w'.cell? ⟨gb351, 2, none⟩ = some (.slice Ao24 t348.length co24) ∧ w'.cell? ⟨gb334, 0, none⟩ = some (.int .i64 a0_0) ∧ w'.cell? ⟨gb334, 1, none⟩ = some (.slice A0_1 l0_1.length c0_1) ∧ w'.cell? ⟨gb334, 2, none⟩ = some (.slice A0_2 l0_2.length c0_2)) (ds := []) #[false, false, false, false, false] (by kernel_rfl) rfl rfl ⟨(blk_cell BK351.out 0).trans rfl, (blk_cell BK351.out 1).trans rfl, (blk_cell BK351.out 2).trans rfl, (blk_cell BK334.out 0).trans rfl, (blk_cell BK334.out 1).trans rfl, (blk_cell BK334.out 2).trans rfl⟩ (fun hHeld => ?_)
   generalize w25.drew = w30 at HO339 HO342 HO347 HO350 BK334 BK351 HB hHeld ⊢
   refine take_ (i := 0) (N := some 22) (v := ?_) (a' := ?_) #[true, false, false, false, false] rfl rfl (by kernel_rfl) (fun _ _ _ h => h) (Or.inl ⟨by rfl, ?_⟩) hHeld ?_ ?_
   rotate_left
   ·rintro w' ⟨s0, s1, s2, s3, s4, s5⟩
    go_simp
    with_reducible rfl
   rotate_left
   ·simp only [Act.put, List.setIfInBounds_toArray, List.set_cons_zero, List.set_cons_succ, i64_w, i32_w]
    rfl
   refine take_ (i := 1) (N := some 23) (v := ?_) (a' := ?_) #[true, true, false, false, false] rfl rfl (by kernel_rfl) (fun _ _ _ h => h) (Or.inl ⟨by rfl, ?_⟩) hHeld ?_ ?_
   rotate_left
   ·rintro w' ⟨s0, s1, s2, s3, s4, s5⟩
    go_simp
    with_reducible rfl
   rotate_left
   ·simp only [Act.put, List.setIfInBounds_toArray, List.set_cons_zero, List.set_cons_succ, i64_w, i32_w]
    rfl
   refine one_ (i := 2) (N := some 24) #[true, true, true, false, false] rfl rfl (by kernel_rfl) (by decide) (fun K hK => ?_)
   refine goes_ Try.func10 (by kernel_rfl) rfl #[.agg #[.int .i64 a0_0, .slice A0_1 l0_1.length c0_1, .slice A0_2 l0_2.length c0_2]] (by rfl) rfl rfl argx ?_
   with_reducible refine (laws_toChart.calls k a0_0 _ _ l0_1 _ _ l0_2 t353 t354 t357 _ ?side1 ?side2 ?side3 ?side4 A27.out).mono ?_
   (case side1 => exact mC (Kd.C_below HR0_1.out HB.out))
   (case side2 => exact HC0_1.out)
   (case side3 => exact mC (Kd.C_below HR0_2.out HB.out))
   (case side4 => exact HC0_2.out)
   rintro e w31 ⟨v355, v358, rfl, ho0, ho1, hb⟩
   refine ⟨_, rfl, ?_⟩
   have n0_ := z0 (Kd.R_elder' (mR HO339.out) (by first | exact Kd.R_base ho0 | exact Kd.R_base ho0) hb)
   have n1_ := z0 (Kd.R_elder' (mR HO342.out) (by first | exact Kd.R_base ho1 | exact Kd.R_base ho1) hb)
   have n2_ := z0 (Kd.R_elder' (mR HO347.out) (by first | exact Kd.R_base ho0 | exact Kd.R_base ho0) hb)
   have n3_ := z0 (Kd.R_elder' (mR HO350.out) (by first | exact Kd.R_base ho1 | exact Kd.R_base ho1) hb)
   have n4_ := z0 (Kd.R_lower (Kd.R_new' (Kd.R_new' ho0 (Kd.R_lt (mR HO339.out))) (Kd.R_lt (mR HO347.out))) (below_size (mB HB.out)))
   have n5_ := z0 (Kd.R_lower (Kd.R_new' (Kd.R_new' ho1 (Kd.R_lt (mR HO342.out))) (Kd.R_lt (mR HO350.out))) (below_size (mB HB.out)))
   have n6_ := z0 (blk_below (g := gb334) (o := .cells #[.int .i64 a0_0, .slice A0_1 l0_1.length c0_1, .slice A0_2 l0_2.length c0_2] 25 (0, 0)) (mK BK334.out) hb)
   have n7_ := z0 (blk_below (g := gb351) (o := .cells #[.int .i64 t344, .slice Ao23 t345.length co23, .slice Ao24 t348.length co24] 31 (0, 0)) (mK BK351.out) hb)
   have n8_ := z0 (below_step (mB HB.out) hb)
   clear HO339 HO342 HO347 HO350 BK334 BK351 HB
   have HO339 := n0_
   have HO342 := n1_
   have HO347 := n2_
   have HO350 := n3_
   have HO356 := n4_
   have HO359 := n5_
   have BK334 := n6_
   have BK351 := n7_
   have HB := n8_
   clear n0_ n1_ n2_ n3_ n4_ n5_ n6_ n7_ n8_
   (try clear hb)
   (try clear hb2)
   (try clear hk)
   (try clear hi)
   (try clear ho0)
   (try clear ho1)
   obtain ⟨Ao32, co32, eo32⟩ := Kd.R_slice HO356.out
   (first | subst eo32 | (injection eo32 with f1_ f2_ f3_; have f4_ := f1_.symm; have f5_ := f3_.symm; clear f1_ f2_ f3_; subst f4_; subst f5_))
   obtain ⟨Ao33, co33, eo33⟩ := Kd.R_slice HO359.out
   (first | subst eo33 | (injection eo33 with f1_ f2_ f3_; have f4_ := f1_.symm; have f5_ := f3_.symm; clear f1_ f2_ f3_; subst f4_; subst f5_))
   refine hK.out _ _ ⟨(blk_cell BK351.out 0).trans rfl, (blk_cell BK351.out 1).trans rfl, (blk_cell BK351.out 2).trans rfl, (blk_cell BK334.out 0).trans rfl, (blk_cell BK334.out 1).trans rfl, (blk_cell BK334.out 2).trans rfl⟩ (fun hHeld => ?_)
   clear hK K
   refine norm_ (a' := ?_) ?_ ?_
   rotate_left
   ·show Act.put _ (some 24) _ = _
    simp only [Act.put, List.setIfInBounds_toArray, List.set_cons_zero, List.set_cons_succ, i64_w, i32_w]
    rfl
   refine one_ (i := 3) (N := some 25) #[true, true, true, true, false] rfl rfl (by kernel_rfl) (by decide) (fun K hK => ?_)
   refine goes_ Try.func12 (by kernel_rfl) rfl #[.agg #[.int .i64 t344, .slice Ao23 t345.length co23, .slice Ao24 t348.length co24], .agg #[.int .i64 t353, .slice Ao32 t354.length co32, .slice Ao33 t357.length co33]] (by rfl) rfl rfl argx ?_
   with_reducible refine (laws_eqChart.calls k t344 _ _ t345 _ _ t348 t353 _ _ t354 _ _ t357 t360 _ ?side1 ?side2 ?side3 ?side4 ?side5 ?side6 ?side7 ?side8 A28.out).mono ?_
   (case side1 => exact mC (Kd.R_reads' HO347.out).2.2)
   (case side2 => exact (Kd.R_reads' HO347.out).2.1)
   (case side3 => exact mC (Kd.R_reads' HO350.out).2.2)
   (case side4 => exact (Kd.R_reads' HO350.out).2.1)
   (case side5 => exact mC (Kd.R_reads' HO356.out).2.2)
   (case side6 => exact (Kd.R_reads' HO356.out).2.1)
   (case side7 => exact mC (Kd.R_reads' HO359.out).2.2)
   (case side8 => exact (Kd.R_reads' HO359.out).2.1)
   rintro e w34 ⟨rfl, hb⟩
   refine ⟨_, rfl, ?_⟩
   have n0_ := z0 (Kd.R_below (mR HO339.out) hb)
   have n1_ := z0 (Kd.R_below (mR HO342.out) hb)
   have n2_ := z0 (Kd.R_below (mR HO347.out) hb)
   have n3_ := z0 (Kd.R_below (mR HO350.out) hb)
   have n4_ := z0 (Kd.R_below (mR HO356.out) hb)
   have n5_ := z0 (Kd.R_below (mR HO359.out) hb)
   have n6_ := z0 (blk_below (g := gb334) (o := .cells #[.int .i64 a0_0, .slice A0_1 l0_1.length c0_1, .slice A0_2 l0_2.length c0_2] 25 (0, 0)) (mK BK334.out) hb)
   have n7_ := z0 (blk_below (g := gb351) (o := .cells #[.int .i64 t344, .slice Ao23 t345.length co23, .slice Ao24 t348.length co24] 31 (0, 0)) (mK BK351.out) hb)
   have n8_ := z0 (below_step (mB HB.out) hb)
   clear HO339 HO342 HO347 HO350 HO356 HO359 BK334 BK351 HB
   have HO339 := n0_
   have HO342 := n1_
   have HO347 := n2_
   have HO350 := n3_
   have HO356 := n4_
   have HO359 := n5_
   have BK334 := n6_
   have BK351 := n7_
   have HB := n8_
   clear n0_ n1_ n2_ n3_ n4_ n5_ n6_ n7_ n8_
   (try clear hb)
   (try clear hb2)
   (try clear hk)
   (try clear hi)
   refine hK.out _ _ ⟨(blk_cell BK351.out 0).trans rfl, (blk_cell BK351.out 1).trans rfl, (blk_cell BK351.out 2).trans rfl, (blk_cell BK334.out 0).trans rfl, (blk_cell BK334.out 1).trans rfl, (blk_cell BK334.out 2).trans rfl⟩ (fun hHeld => ?_)
   clear hK K
   refine norm_ (a' := ?_) ?_ ?_
   rotate_left
   ·show Act.put _ (some 25) _ = _
    simp only [Act.put, List.setIfInBounds_toArray, List.set_cons_zero, List.set_cons_succ, i64_w, i32_w]
    rfl
   refine pure_ (i := 4) (N := some 26) (v := ?_) (a' := ?_) #[true, true, true, true, true] rfl rfl (by kernel_rfl) (fun _ _ _ h => h) (Or.inl ⟨by rfl, ?_⟩) ?_ ?_
   rotate_left
   ·intro w'
    go_simp
    with_reducible rfl
   rotate_left
   ·simp only [Act.put, List.setIfInBounds_toArray, List.set_cons_zero, List.set_cons_succ, i64_w, i32_w]
    rfl
   refine done_ (by kernel_rfl) ?_
   go_upto_if 26 with (fail)
   have H := HF29.out
   clear HF29
   (try clear c1); (try clear c2); (try clear p2); (try clear c4); (try clear c7); (try clear c7b0); (try clear c8); (try clear c10); (try clear c12); (try clear c13); (try clear c14); (try clear c21); (try clear c26); (try clear c26b0); (try clear c26b1); (try clear c26b2); (try clear hcz13_0); (try clear hcz13_1); (try clear hcz13_2); (try clear hcz18_0); (try clear hcz18_1); (try clear hcz18_2); (try clear hcz22_0); (try clear hcz22_1); (try clear hcz22_2); (try clear hcz5_0); (try clear hcz5_1); (try clear hcz5_2); (try clear hfz13_0); (try clear hfz13_1); (try clear hfz13_2); (try clear hfz18_0); (try clear hfz18_1); (try clear hfz18_2); (try clear hfz22_0); (try clear hfz22_1); (try clear hfz22_2); (try clear hfz5_0); (try clear hfz5_1); (try clear hfz5_2); (try clear p2)
   by_cases c35 : t360 = true
   ·subst c35
    have H1 : (some true) = some r := by rw [if_pos rfl] at H; exact H
    clear H
    have H := H1
    clear H1
    obtain rfl := Option.some.inj H
    go_wp2
    go_ret
    exact ⟨rfx, mB HB.out⟩
   ·replace c35 := Bool.eq_false_iff.mpr c35
    subst c35
    have H1 : (some false) = some r := by rw [if_neg (show ¬ (false = true) by decide)] at H; exact H
    clear H
    have H := H1
    clear H1
    obtain rfl := Option.some.inj H
    go_wp2
    go_ret
    exact ⟨rfx, mB HB.out⟩

end Go.Proofs.Ytlmchfcfkfegaaa.B
