-- printed by base.py (this claim's tool) over the kit's print
import Derived.Test.YtlmchfcfkfegaaaB0
import Derived.Test.YtlmchfcfkfegaaaSq
import Derived.Test.YtlmchfcfkfegaaaPkA
import Derived.Test.YtlmchfcfkfegaaaPkC
import Derived.Test.YtlmchfcfkfegaaaZChSame
import Derived.Test.YtlmchfcfkfegaaaPkB
namespace Go.Proofs.Ytlmchfcfkfegaaa.B
open Go.RowKit Go.Proofs.YtlmchfcfkfegaaaW.PrintWords Go.Proofs.YtlmchfcfkfegaaaW.PrintLast Go.Proofs.YtlmchfcfkfegaaaW.PrintMore
attribute [local go_sem] max2_int min2_int max_two min_two max_three min_three max_four min_four   -- for this text's walks alone
set_option linter.unusedVariables false
set_option linter.unusedSimpArgs false

/-! ### laws_FnExactChartSame: function 3 -/
def laws_FnExactChartSame.f (k : Nat) (a0_0 : Int) (l0_1 : List (S151)) (l0_2 : List (S155)) (a1_0 : Int) (l1_1 : List (S151)) (l1_2 : List (S155)) : Option (Bool) := (laws_szChart.f k a0_0 l0_1 l0_2 1048576).bind fun t252 => (if t252 < 0 then (some true) else ((laws_szChart.f k a1_0 l1_1 l1_2 t252).bind fun t253 => (if t253 < 0 then (some true) else ((laws_toChart.f k a0_0 l0_1 l0_2).bind fun bt254 => ((laws_toChart.f k a1_0 l1_1 l1_2).bind fun bt261 => ((spec_ChartSame.f k bt254.1 bt254.2.1 bt254.2.2 bt261.1 bt261.2.1 bt261.2.2).bind fun t268 => ((laws_toChart.f k a0_0 l0_1 l0_2).bind fun bt269 => ((laws_toChart.f k a1_0 l1_1 l1_2).bind fun bt277 => ((impl_ChartSame.f bt269.1 bt269.2.1 bt269.2.2 bt277.1 bt277.2.1 bt277.2.2).bind fun t285 => (if (t285 != t268) = true then (some false) else ((laws_toChart.f k a0_0 l0_1 l0_2).bind fun bt286 => ((laws_eqChart.f k bt269.1 bt269.2.1 bt269.2.2 bt286.1 bt286.2.1 bt286.2.2).bind fun t293 => (if t293 = true then ((laws_toChart.f k a1_0 l1_1 l1_2).bind fun bt294 => ((laws_eqChart.f k bt277.1 bt277.2.1 bt277.2.2 bt294.1 bt294.2.1 bt294.2.2).bind fun t301 => (if t301 = true then (some true) else (some false)))) else (some false))))))))))))))
set_option maxHeartbeats 8000000 in
set_option maxRecDepth 100000 in
theorem laws_FnExactChartSame.calls (k : Nat) (a0_0 : Int) (A0_1 : Option Addr) (c0_1 : Nat) (l0_1 : List (S151)) (A0_2 : Option Addr) (c0_2 : Nat) (l0_2 : List (S155)) (a1_0 : Int) (A1_1 : Option Addr) (c1_1 : Nat) (l1_1 : List (S151)) (A1_2 : Option Addr) (c1_2 : Nat) (l1_2 : List (S155)) (r : Bool) (w : World) (hr0_1 : Kd.C k151 w A0_1 l0_1.length l0_1) (hc0_1 : l0_1.length ≤ c0_1) (hr0_2 : Kd.C k155 w A0_2 l0_2.length l0_2) (hc0_2 : l0_2.length ≤ c0_2) (hr1_1 : Kd.C k151 w A1_1 l1_1.length l1_1) (hc1_1 : l1_1.length ≤ c1_1) (hr1_2 : Kd.C k155 w A1_2 l1_2.length l1_2) (hc1_2 : l1_2.length ≤ c1_2) (h : laws_FnExactChartSame.f k a0_0 l0_1 l0_2 a1_0 l1_1 l1_2 = some r) :
  Calls Try.prog 3 #[.agg #[.int .i64 a0_0, .slice A0_1 l0_1.length c0_1, .slice A0_2 l0_2.length c0_2], .agg #[.int .i64 a1_0, .slice A1_1 l1_1.length c1_1, .slice A1_2 l1_2.length c1_2]] w fun e w' => e = .returned (.bool r) ∧ Below w.heap.size w w' := by
 have hu25 := Try.underlying25
 have hu31 := Try.underlying31
 have HR0_1 := z0 hr0_1
 have HC0_1 := z0 hc0_1
 clear hr0_1 hc0_1
 have HR0_2 := z0 hr0_2
 have HC0_2 := z0 hc0_2
 clear hr0_2 hc0_2
 have HR1_1 := z0 hr1_1
 have HC1_1 := z0 hc1_1
 clear hr1_1 hc1_1
 have HR1_2 := z0 hr1_2
 have HC1_2 := z0 hc1_2
 clear hr1_2 hc1_2
 have HB := z0 (Below.refl w.heap.size w)
 have H : ((laws_szChart.f k a0_0 l0_1 l0_2 1048576).bind fun t252 => (if t252 < 0 then (some true) else ((laws_szChart.f k a1_0 l1_1 l1_2 t252).bind fun t253 => (if t253 < 0 then (some true) else ((laws_toChart.f k a0_0 l0_1 l0_2).bind fun bt254 => ((laws_toChart.f k a1_0 l1_1 l1_2).bind fun bt261 => ((spec_ChartSame.f k bt254.1 bt254.2.1 bt254.2.2 bt261.1 bt261.2.1 bt261.2.2).bind fun t268 => ((laws_toChart.f k a0_0 l0_1 l0_2).bind fun bt269 => ((laws_toChart.f k a1_0 l1_1 l1_2).bind fun bt277 => ((impl_ChartSame.f bt269.1 bt269.2.1 bt269.2.2 bt277.1 bt277.2.1 bt277.2.2).bind fun t285 => (if (t285 != t268) = true then (some false) else ((laws_toChart.f k a0_0 l0_1 l0_2).bind fun bt286 => ((laws_eqChart.f k bt269.1 bt269.2.1 bt269.2.2 bt286.1 bt286.2.1 bt286.2.2).bind fun t293 => (if t293 = true then ((laws_toChart.f k a1_0 l1_1 l1_2).bind fun bt294 => ((laws_eqChart.f k bt277.1 bt277.2.1 bt277.2.2 bt294.1 bt294.2.1 bt294.2.2).bind fun t301 => (if t301 = true then (some true) else (some false)))) else (some false))))))))))))))) = some r := h
 clear h
 replace H := Option.bind_eq_some_iff.mp H
 obtain ⟨t252, A30, H⟩ := H
 replace H : (if t252 < 0 then (some true) else ((laws_szChart.f k a1_0 l1_1 l1_2 t252).bind fun t253 => (if t253 < 0 then (some true) else ((laws_toChart.f k a0_0 l0_1 l0_2).bind fun bt254 => ((laws_toChart.f k a1_0 l1_1 l1_2).bind fun bt261 => ((spec_ChartSame.f k bt254.1 bt254.2.1 bt254.2.2 bt261.1 bt261.2.1 bt261.2.2).bind fun t268 => ((laws_toChart.f k a0_0 l0_1 l0_2).bind fun bt269 => ((laws_toChart.f k a1_0 l1_1 l1_2).bind fun bt277 => ((impl_ChartSame.f bt269.1 bt269.2.1 bt269.2.2 bt277.1 bt277.2.1 bt277.2.2).bind fun t285 => (if (t285 != t268) = true then (some false) else ((laws_toChart.f k a0_0 l0_1 l0_2).bind fun bt286 => ((laws_eqChart.f k bt269.1 bt269.2.1 bt269.2.2 bt286.1 bt286.2.1 bt286.2.2).bind fun t293 => (if t293 = true then ((laws_toChart.f k a1_0 l1_1 l1_2).bind fun bt294 => ((laws_eqChart.f k bt277.1 bt277.2.1 bt277.2.2 bt294.1 bt294.2.1 bt294.2.2).bind fun t301 => (if t301 = true then (some true) else (some false)))) else (some false)))))))))))))) = some r := H
 have A3 := z0 A30
 clear A30
 have HF4 := z0 H
 clear H
 go_enter Try.func3, Try.ntmps3
 go_upto_if 14 with (first | ((with_reducible refine gate_dst (N := 2) rfl ?_); refine box_event ?hg (N := 2) ?hd (cs := #[.int .i64 a0_0, .slice A0_1 l0_1.length c0_1, .slice A0_2 l0_2.length c0_2]) (t := 25) ?hr ?_; (case hd => rfl); (case hg => rfl); (case hr => first | (go_simp; done) | (go_simp; rfl)); intro gb250 hg w5 hbox hb; have n0_ := z0 (below_step (mB HB.out) hb); have n1_ := z0 (hbox); have n2_ := z0 ((by rw [hg]; exact (below_size (mB HB.out)) : w.heap.size ≤ gb250)); have n3_ := z0 ((by rw [hg]; exact (below_size (mB HB.out)) : w.heap.size ≤ gb250)); clear HB; have HB := n0_; have BK250 := n1_; have GW250 := n2_; have GE250 := n3_; clear n0_ n1_ n2_ n3_; clear hb hbox hg) | ((with_reducible refine gate_dst (N := 3) rfl ?_); refine box_event ?hg (N := 3) ?hd (cs := #[.int .i64 a1_0, .slice A1_1 l1_1.length c1_1, .slice A1_2 l1_2.length c1_2]) (t := 25) ?hr ?_; (case hd => rfl); (case hg => rfl); (case hr => first | (go_simp; done) | (go_simp; rfl)); intro gb251 hg w6 hbox hb; have n0_ := z0 (blk_below (g := gb250) (o := .cells #[.int .i64 a0_0, .slice A0_1 l0_1.length c0_1, .slice A0_2 l0_2.length c0_2] 25 (0, 0)) (mK BK250.out) hb); have n1_ := z0 (below_step (mB HB.out) hb); have n2_ := z0 (hbox); have n3_ := z0 ((by rw [hg]; exact (below_size (mB HB.out)) : w.heap.size ≤ gb251)); have n4_ := z0 ((by rw [hg]; exact (below_size (mB HB.out)) : w.heap.size ≤ gb251)); have n5_ := z0 ((by rw [hg]; exact Nat.ne_of_lt (blk_lt (g := gb250) (o := .cells #[.int .i64 a0_0, .slice A0_1 l0_1.length c0_1, .slice A0_2 l0_2.length c0_2] 25 (0, 0)) (mK BK250.out)) : gb250 ≠ gb251)); have n6_ := z0 ((by rw [hg]; exact Nat.ne_of_gt (blk_lt (g := gb250) (o := .cells #[.int .i64 a0_0, .slice A0_1 l0_1.length c0_1, .slice A0_2 l0_2.length c0_2] 25 (0, 0)) (mK BK250.out)) : gb251 ≠ gb250)); clear BK250; clear HB; have BK250 := n0_; have HB := n1_; have BK251 := n2_; have GW251 := n3_; have GE251 := n4_; have NB250_251 := n5_; have NB251_250 := n6_; clear n0_ n1_ n2_ n3_ n4_ n5_ n6_; clear hb hbox hg; have hnb7 := NB250_251.out; have hnc7 := NB251_250.out; obtain ⟨hcz8_0, hcz8_1, hcz8_2, hfz8_0, hfz8_1, hfz8_2⟩ := cel3 BK250.out) | ((with_reducible refine gate_callee (f := 8) rfl ?_); refine goesL_ (some 12) rfl rfl Try.func8 (by kernel_rfl) rfl #[.agg #[.int .i64 a0_0, .slice A0_1 l0_1.length c0_1, .slice A0_2 l0_2.length c0_2], .int .i64 1048576] rfl argx ?_; (with_reducible refine (laws_szChart.calls k a0_0 _ _ l0_1 _ _ l0_2 1048576 t252 _ ?side1 ?side2 ?side3 ?side4 A3.out).mono ?_); (case side1 => exact mC (Kd.C_below HR0_1.out HB.out)); (case side2 => exact HC0_1.out); (case side3 => exact mC (Kd.C_below HR0_2.out HB.out)); (case side4 => exact HC0_2.out); rintro e w9 ⟨rfl, hb⟩; refine ⟨_, rfl, ?_⟩; have n0_ := z0 (blk_below (g := gb250) (o := .cells #[.int .i64 a0_0, .slice A0_1 l0_1.length c0_1, .slice A0_2 l0_2.length c0_2] 25 (0, 0)) (mK BK250.out) hb); have n1_ := z0 (blk_below (g := gb251) (o := .cells #[.int .i64 a1_0, .slice A1_1 l1_1.length c1_1, .slice A1_2 l1_2.length c1_2] 25 (0, 0)) (mK BK251.out) hb); have n2_ := z0 (below_step (mB HB.out) hb); clear BK250; clear BK251; clear HB; have BK250 := n0_; have BK251 := n1_; have HB := n2_; clear n0_ n1_ n2_; (try clear hb); (try clear hb2); (try clear hk); (try clear hi)))
 (try simp only [Act.put, List.setIfInBounds_toArray, List.set_cons_zero, List.set_cons_succ])
 have H := HF4.out
 clear HF4
 (try clear c1); (try clear c3); (try clear c7); (try clear c8); (try clear hcz8_0); (try clear hcz8_1); (try clear hcz8_2); (try clear hfz8_0); (try clear hfz8_1); (try clear hfz8_2)
 by_cases c10 : t252 < 0
 ·rw [if_pos c10] at H
  have c10b0 : decide (t252 < 0) = true := decide_eq_true c10
  clear c10
  (first | rw [c10b0] | (simp only [i64_w, i32_w]; rw [c10b0]) | skip)
  obtain rfl := Option.some.inj H
  go_wp2
  go_ret
  exact ⟨rfx, mB HB.out⟩
 ·rw [if_neg c10] at H
  have c10b0 : decide (t252 < 0) = false := decide_eq_false c10
  clear c10
  (first | rw [c10b0] | (simp only [i64_w, i32_w]; rw [c10b0]) | skip)
  replace H := Option.bind_eq_some_iff.mp H
  obtain ⟨t253, A110, H⟩ := H
  replace H : (if t253 < 0 then (some true) else ((laws_toChart.f k a0_0 l0_1 l0_2).bind fun bt254 => ((laws_toChart.f k a1_0 l1_1 l1_2).bind fun bt261 => ((spec_ChartSame.f k bt254.1 bt254.2.1 bt254.2.2 bt261.1 bt261.2.1 bt261.2.2).bind fun t268 => ((laws_toChart.f k a0_0 l0_1 l0_2).bind fun bt269 => ((laws_toChart.f k a1_0 l1_1 l1_2).bind fun bt277 => ((impl_ChartSame.f bt269.1 bt269.2.1 bt269.2.2 bt277.1 bt277.2.1 bt277.2.2).bind fun t285 => (if (t285 != t268) = true then (some false) else ((laws_toChart.f k a0_0 l0_1 l0_2).bind fun bt286 => ((laws_eqChart.f k bt269.1 bt269.2.1 bt269.2.2 bt286.1 bt286.2.1 bt286.2.2).bind fun t293 => (if t293 = true then ((laws_toChart.f k a1_0 l1_1 l1_2).bind fun bt294 => ((laws_eqChart.f k bt277.1 bt277.2.1 bt277.2.2 bt294.1 bt294.2.1 bt294.2.2).bind fun t301 => (if t301 = true then (some true) else (some false)))) else (some false)))))))))))) = some r := H
  have A11 := z0 A110
  clear A110
  have HF12 := z0 H
  clear H
  have hnb13 := NB251_250.out
  have hnc13 := NB250_251.out
  obtain ⟨hcz14_0, hcz14_1, hcz14_2, hfz14_0, hfz14_1, hfz14_2⟩ := cel3 BK251.out
  go_upto_if 19 with (first | ((with_reducible refine gate_callee (f := 8) rfl ?_); refine goesL_ (some 17) rfl rfl Try.func8 (by kernel_rfl) rfl #[.agg #[.int .i64 a1_0, .slice A1_1 l1_1.length c1_1, .slice A1_2 l1_2.length c1_2], .int .i64 t252] rfl argx ?_; (with_reducible refine (laws_szChart.calls k a1_0 _ _ l1_1 _ _ l1_2 t252 t253 _ ?side1 ?side2 ?side3 ?side4 A11.out).mono ?_); (case side1 => exact mC (Kd.C_below HR1_1.out HB.out)); (case side2 => exact HC1_1.out); (case side3 => exact mC (Kd.C_below HR1_2.out HB.out)); (case side4 => exact HC1_2.out); rintro e w15 ⟨rfl, hb⟩; refine ⟨_, rfl, ?_⟩; have n0_ := z0 (blk_below (g := gb250) (o := .cells #[.int .i64 a0_0, .slice A0_1 l0_1.length c0_1, .slice A0_2 l0_2.length c0_2] 25 (0, 0)) (mK BK250.out) hb); have n1_ := z0 (blk_below (g := gb251) (o := .cells #[.int .i64 a1_0, .slice A1_1 l1_1.length c1_1, .slice A1_2 l1_2.length c1_2] 25 (0, 0)) (mK BK251.out) hb); have n2_ := z0 (below_step (mB HB.out) hb); clear BK250; clear BK251; clear HB; have BK250 := n0_; have BK251 := n1_; have HB := n2_; clear n0_ n1_ n2_; (try clear hb); (try clear hb2); (try clear hk); (try clear hi)))
  (try simp only [Act.put, List.setIfInBounds_toArray, List.set_cons_zero, List.set_cons_succ])
  have H := HF12.out
  clear HF12
  (try clear c1); (try clear p2); (try clear c3); (try clear c7); (try clear c8); (try clear c10); (try clear c10b0); (try clear c13); (try clear hcz14_0); (try clear hcz14_1); (try clear hcz14_2); (try clear hcz8_0); (try clear hcz8_1); (try clear hcz8_2); (try clear hfz14_0); (try clear hfz14_1); (try clear hfz14_2); (try clear hfz8_0); (try clear hfz8_1); (try clear hfz8_2)
  by_cases c16 : t253 < 0
  ·rw [if_pos c16] at H
   have c16b0 : decide (t253 < 0) = true := decide_eq_true c16
   clear c16
   (first | rw [c16b0] | (simp only [i64_w, i32_w]; rw [c16b0]) | skip)
   obtain rfl := Option.some.inj H
   go_wp2
   go_ret
   exact ⟨rfx, mB HB.out⟩
  ·rw [if_neg c16] at H
   have c16b0 : decide (t253 < 0) = false := decide_eq_false c16
   clear c16
   (first | rw [c16b0] | (simp only [i64_w, i32_w]; rw [c16b0]) | skip)
   replace H := Option.bind_eq_some_iff.mp H
   obtain ⟨⟨t254, t255, t258⟩, A170, H⟩ := H
   replace H : ((laws_toChart.f k a1_0 l1_1 l1_2).bind fun bt261 => ((spec_ChartSame.f k t254 t255 t258 bt261.1 bt261.2.1 bt261.2.2).bind fun t268 => ((laws_toChart.f k a0_0 l0_1 l0_2).bind fun bt269 => ((laws_toChart.f k a1_0 l1_1 l1_2).bind fun bt277 => ((impl_ChartSame.f bt269.1 bt269.2.1 bt269.2.2 bt277.1 bt277.2.1 bt277.2.2).bind fun t285 => (if (t285 != t268) = true then (some false) else ((laws_toChart.f k a0_0 l0_1 l0_2).bind fun bt286 => ((laws_eqChart.f k bt269.1 bt269.2.1 bt269.2.2 bt286.1 bt286.2.1 bt286.2.2).bind fun t293 => (if t293 = true then ((laws_toChart.f k a1_0 l1_1 l1_2).bind fun bt294 => ((laws_eqChart.f k bt277.1 bt277.2.1 bt277.2.2 bt294.1 bt294.2.1 bt294.2.2).bind fun t301 => (if t301 = true then (some true) else (some false)))) else (some false)))))))))) = some r := H
   have A17 := z0 A170
   clear A170
   replace H := Option.bind_eq_some_iff.mp H
   obtain ⟨⟨t261, t262, t265⟩, A180, H⟩ := H
   replace H : ((spec_ChartSame.f k t254 t255 t258 t261 t262 t265).bind fun t268 => ((laws_toChart.f k a0_0 l0_1 l0_2).bind fun bt269 => ((laws_toChart.f k a1_0 l1_1 l1_2).bind fun bt277 => ((impl_ChartSame.f bt269.1 bt269.2.1 bt269.2.2 bt277.1 bt277.2.1 bt277.2.2).bind fun t285 => (if (t285 != t268) = true then (some false) else ((laws_toChart.f k a0_0 l0_1 l0_2).bind fun bt286 => ((laws_eqChart.f k bt269.1 bt269.2.1 bt269.2.2 bt286.1 bt286.2.1 bt286.2.2).bind fun t293 => (if t293 = true then ((laws_toChart.f k a1_0 l1_1 l1_2).bind fun bt294 => ((laws_eqChart.f k bt277.1 bt277.2.1 bt277.2.2 bt294.1 bt294.2.1 bt294.2.2).bind fun t301 => (if t301 = true then (some true) else (some false)))) else (some false))))))))) = some r := H
   have A18 := z0 A180
   clear A180
   replace H := Option.bind_eq_some_iff.mp H
   obtain ⟨t268, A190, H⟩ := H
   replace H : ((laws_toChart.f k a0_0 l0_1 l0_2).bind fun bt269 => ((laws_toChart.f k a1_0 l1_1 l1_2).bind fun bt277 => ((impl_ChartSame.f bt269.1 bt269.2.1 bt269.2.2 bt277.1 bt277.2.1 bt277.2.2).bind fun t285 => (if (t285 != t268) = true then (some false) else ((laws_toChart.f k a0_0 l0_1 l0_2).bind fun bt286 => ((laws_eqChart.f k bt269.1 bt269.2.1 bt269.2.2 bt286.1 bt286.2.1 bt286.2.2).bind fun t293 => (if t293 = true then ((laws_toChart.f k a1_0 l1_1 l1_2).bind fun bt294 => ((laws_eqChart.f k bt277.1 bt277.2.1 bt277.2.2 bt294.1 bt294.2.1 bt294.2.2).bind fun t301 => (if t301 = true then (some true) else (some false)))) else (some false)))))))) = some r := H
   have A19 := z0 A190
   clear A190
   replace H := Option.bind_eq_some_iff.mp H
   obtain ⟨⟨t269, t270, t273⟩, A200, H⟩ := H
   replace H : ((laws_toChart.f k a1_0 l1_1 l1_2).bind fun bt277 => ((impl_ChartSame.f t269 t270 t273 bt277.1 bt277.2.1 bt277.2.2).bind fun t285 => (if (t285 != t268) = true then (some false) else ((laws_toChart.f k a0_0 l0_1 l0_2).bind fun bt286 => ((laws_eqChart.f k t269 t270 t273 bt286.1 bt286.2.1 bt286.2.2).bind fun t293 => (if t293 = true then ((laws_toChart.f k a1_0 l1_1 l1_2).bind fun bt294 => ((laws_eqChart.f k bt277.1 bt277.2.1 bt277.2.2 bt294.1 bt294.2.1 bt294.2.2).bind fun t301 => (if t301 = true then (some true) else (some false)))) else (some false))))))) = some r := H
   have A20 := z0 A200
   clear A200
   replace H := Option.bind_eq_some_iff.mp H
   obtain ⟨⟨t277, t278, t281⟩, A210, H⟩ := H
   replace H : ((impl_ChartSame.f t269 t270 t273 t277 t278 t281).bind fun t285 => (if (t285 != t268) = true then (some false) else ((laws_toChart.f k a0_0 l0_1 l0_2).bind fun bt286 => ((laws_eqChart.f k t269 t270 t273 bt286.1 bt286.2.1 bt286.2.2).bind fun t293 => (if t293 = true then ((laws_toChart.f k a1_0 l1_1 l1_2).bind fun bt294 => ((laws_eqChart.f k t277 t278 t281 bt294.1 bt294.2.1 bt294.2.2).bind fun t301 => (if t301 = true then (some true) else (some false)))) else (some false)))))) = some r := H
   have A21 := z0 A210
   clear A210
   replace H := Option.bind_eq_some_iff.mp H
   obtain ⟨t285, A220, H⟩ := H
   replace H : (if (t285 != t268) = true then (some false) else ((laws_toChart.f k a0_0 l0_1 l0_2).bind fun bt286 => ((laws_eqChart.f k t269 t270 t273 bt286.1 bt286.2.1 bt286.2.2).bind fun t293 => (if t293 = true then ((laws_toChart.f k a1_0 l1_1 l1_2).bind fun bt294 => ((laws_eqChart.f k t277 t278 t281 bt294.1 bt294.2.1 bt294.2.2).bind fun t301 => (if t301 = true then (some true) else (some false)))) else (some false))))) = some r := H
   have A22 := z0 A220
   clear A220
   have HF23 := z0 H
   clear H
   try go_wp2
   have n0_ := z0 (blk_drew BK250.out)
   have n1_ := z0 (blk_drew BK251.out)
   have n2_ := z0 (below_drew1 HB.out)
   clear BK250 BK251 HB
   have BK250 := n0_
   have BK251 := n1_
   have HB := n2_
   clear n0_ n1_ n2_
   refine start_ (n := 6) (S := fun w' => w'.cell? ⟨gb250, 0, none⟩ = some (.int .i64 a0_0) ∧ w'.cell? ⟨gb250, 1, none⟩ = some (.slice A0_1 l0_1.length c0_1) ∧ w'.cell? ⟨gb250, 2, none⟩ = some (.slice A0_2 l0_2.length c0_2) ∧ w'.cell? ⟨gb251, 0, none⟩ = some (.int .i64 a1_0) ∧ w'.cell? ⟨gb251, 1, none⟩ = some (.slice A1_1 l1_1.length c1_1) ∧ w'.cell? ⟨gb251, 2, none⟩ = some (.slice A1_2 l1_2.length c1_2)) (ds := []) #[false, false, false, false, false, false] (by kernel_rfl) rfl rfl ⟨(blk_cell BK250.out 0).trans rfl, (blk_cell BK250.out 1).trans rfl, (blk_cell BK250.out 2).trans rfl, (blk_cell BK251.out 0).trans rfl, (blk_cell BK251.out 1).trans rfl, (blk_cell BK251.out 2).trans rfl⟩ (fun hHeld => ?_)
   generalize w15.drew = w24 at BK250 BK251 HB hHeld ⊢
   refine take_ (i := 0) (N := some 20) (v := ?_) (a' := ?_) #[true, false, false, false, false, false] rfl rfl (by kernel_rfl) (fun _ _ _ h => h) (Or.inl ⟨by rfl, ?_⟩) hHeld ?_ ?_
   rotate_left
   ·rintro w' ⟨s0, s1, s2, s3, s4, s5⟩
    go_simp
    with_reducible rfl
   rotate_left
   ·simp only [Act.put, List.setIfInBounds_toArray, List.set_cons_zero, List.set_cons_succ, i64_w, i32_w]
    rfl
   refine take_ (i := 2) (N := some 22) (v := ?_) (a' := ?_) #[true, false, true, false, false, false] rfl rfl (by kernel_rfl) (fun _ _ _ h => h) (Or.inl ⟨by rfl, ?_⟩) hHeld ?_ ?_
   rotate_left
   ·rintro w' ⟨s0, s1, s2, s3, s4, s5⟩
    go_simp
    with_reducible rfl
   rotate_left
   ·simp only [Act.put, List.setIfInBounds_toArray, List.set_cons_zero, List.set_cons_succ, i64_w, i32_w]
    rfl
   refine one_ (i := 1) (N := some 21) #[true, true, true, false, false, false] rfl rfl (by kernel_rfl) (by decide) (fun K hK => ?_)
   refine goes_ Try.func10 (by kernel_rfl) rfl #[.agg #[.int .i64 a0_0, .slice A0_1 l0_1.length c0_1, .slice A0_2 l0_2.length c0_2]] (by rfl) rfl rfl argx ?_
   with_reducible refine (laws_toChart.calls k a0_0 _ _ l0_1 _ _ l0_2 t254 t255 t258 _ ?side1 ?side2 ?side3 ?side4 A17.out).mono ?_
   (case side1 => exact mC (Kd.C_below HR0_1.out HB.out))
   (case side2 => exact HC0_1.out)
   (case side3 => exact mC (Kd.C_below HR0_2.out HB.out))
   (case side4 => exact HC0_2.out)
   rintro e w25 ⟨v256, v259, rfl, ho0, ho1, hb⟩
   refine ⟨_, rfl, ?_⟩
   have n0_ := z0 (Kd.R_lower ho0 (below_size (mB HB.out)))
   have n1_ := z0 (Kd.R_lower ho1 (below_size (mB HB.out)))
   have n2_ := z0 (blk_below (g := gb250) (o := .cells #[.int .i64 a0_0, .slice A0_1 l0_1.length c0_1, .slice A0_2 l0_2.length c0_2] 25 (0, 0)) (mK BK250.out) hb)
   have n3_ := z0 (blk_below (g := gb251) (o := .cells #[.int .i64 a1_0, .slice A1_1 l1_1.length c1_1, .slice A1_2 l1_2.length c1_2] 25 (0, 0)) (mK BK251.out) hb)
   have n4_ := z0 (below_step (mB HB.out) hb)
   clear BK250 BK251 HB
   have HO257 := n0_
   have HO260 := n1_
   have BK250 := n2_
   have BK251 := n3_
   have HB := n4_
   clear n0_ n1_ n2_ n3_ n4_
   (try clear hb)
   (try clear hb2)
   (try clear hk)
   (try clear hi)
   (try clear ho0)
   (try clear ho1)
   refine hK.out _ _ ⟨(blk_cell BK250.out 0).trans rfl, (blk_cell BK250.out 1).trans rfl, (blk_cell BK250.out 2).trans rfl, (blk_cell BK251.out 0).trans rfl, (blk_cell BK251.out 1).trans rfl, (blk_cell BK251.out 2).trans rfl⟩ (fun hHeld => ?_)
   clear hK K
   refine norm_ (a' := ?_) ?_ ?_
   rotate_left
   ·show Act.put _ (some 21) _ = _
    simp only [Act.put, List.setIfInBounds_toArray, List.set_cons_zero, List.set_cons_succ, i64_w, i32_w]
    rfl
   refine one_ (i := 3) (N := some 23) #[true, true, true, true, false, false] rfl rfl (by kernel_rfl) (by decide) (fun K hK => ?_)
   refine goes_ Try.func10 (by kernel_rfl) rfl #[.agg #[.int .i64 a1_0, .slice A1_1 l1_1.length c1_1, .slice A1_2 l1_2.length c1_2]] (by rfl) rfl rfl argx ?_
   with_reducible refine (laws_toChart.calls k a1_0 _ _ l1_1 _ _ l1_2 t261 t262 t265 _ ?side1 ?side2 ?side3 ?side4 A18.out).mono ?_
   (case side1 => exact mC (Kd.C_below HR1_1.out HB.out))
   (case side2 => exact HC1_1.out)
   (case side3 => exact mC (Kd.C_below HR1_2.out HB.out))
   (case side4 => exact HC1_2.out)
   rintro e w26 ⟨v263, v266, rfl, ho0, ho1, hb⟩
   refine ⟨_, rfl, ?_⟩
   have n0_ := z0 (Kd.R_elder' (mR HO257.out) (by first | exact Kd.R_base ho0 | exact Kd.R_base ho0) hb)
   have n1_ := z0 (Kd.R_elder' (mR HO260.out) (by first | exact Kd.R_base ho1 | exact Kd.R_base ho1) hb)
   have n2_ := z0 (Kd.R_lower (Kd.R_new' ho0 (Kd.R_lt (mR HO257.out))) (below_size (mB HB.out)))
   have n3_ := z0 (Kd.R_lower (Kd.R_new' ho1 (Kd.R_lt (mR HO260.out))) (below_size (mB HB.out)))
   have n4_ := z0 (blk_below (g := gb250) (o := .cells #[.int .i64 a0_0, .slice A0_1 l0_1.length c0_1, .slice A0_2 l0_2.length c0_2] 25 (0, 0)) (mK BK250.out) hb)
   have n5_ := z0 (blk_below (g := gb251) (o := .cells #[.int .i64 a1_0, .slice A1_1 l1_1.length c1_1, .slice A1_2 l1_2.length c1_2] 25 (0, 0)) (mK BK251.out) hb)
   have n6_ := z0 (below_step (mB HB.out) hb)
   clear HO257 HO260 BK250 BK251 HB
   have HO257 := n0_
   have HO260 := n1_
   have HO264 := n2_
   have HO267 := n3_
   have BK250 := n4_
   have BK251 := n5_
   have HB := n6_
   clear n0_ n1_ n2_ n3_ n4_ n5_ n6_
   (try clear hb)
   (try clear hb2)
   (try clear hk)
   (try clear hi)
   (try clear ho0)
   (try clear ho1)
   obtain ⟨Ao27, co27, eo27⟩ := Kd.R_slice HO257.out
   (first | subst eo27 | (injection eo27 with f1_ f2_ f3_; have f4_ := f1_.symm; have f5_ := f3_.symm; clear f1_ f2_ f3_; subst f4_; subst f5_))
   obtain ⟨Ao28, co28, eo28⟩ := Kd.R_slice HO260.out
   (first | subst eo28 | (injection eo28 with f1_ f2_ f3_; have f4_ := f1_.symm; have f5_ := f3_.symm; clear f1_ f2_ f3_; subst f4_; subst f5_))
   obtain ⟨Ao29, co29, eo29⟩ := Kd.R_slice HO264.out
   (first | subst eo29 | (injection eo29 with f1_ f2_ f3_; have f4_ := f1_.symm; have f5_ := f3_.symm; clear f1_ f2_ f3_; subst f4_; subst f5_))
   obtain ⟨Ao30, co30, eo30⟩ := Kd.R_slice HO267.out
   (first | subst eo30 | (injection eo30 with f1_ f2_ f3_; have f4_ := f1_.symm; have f5_ := f3_.symm; clear f1_ f2_ f3_; subst f4_; subst f5_))
   refine hK.out _ _ ⟨(blk_cell BK250.out 0).trans rfl, (blk_cell BK250.out 1).trans rfl, (blk_cell BK250.out 2).trans rfl, (blk_cell BK251.out 0).trans rfl, (blk_cell BK251.out 1).trans rfl, (blk_cell BK251.out 2).trans rfl⟩ (fun hHeld => ?_)
   clear hK K
   refine norm_ (a' := ?_) ?_ ?_
   rotate_left
   ·show Act.put _ (some 23) _ = _
    simp only [Act.put, List.setIfInBounds_toArray, List.set_cons_zero, List.set_cons_succ, i64_w, i32_w]
    rfl
   refine one_ (i := 4) (N := some 24) #[true, true, true, true, true, false] rfl rfl (by kernel_rfl) (by decide) (fun K hK => ?_)
   refine goes_ Try.func9 (by kernel_rfl) rfl #[.agg #[.int .i64 t254, .slice Ao27 t255.length co27, .slice Ao28 t258.length co28], .agg #[.int .i64 t261, .slice Ao29 t262.length co29, .slice Ao30 t265.length co30]] (by rfl) rfl rfl argx ?_
   with_reducible refine (spec_ChartSame.calls k t254 _ _ t255 _ _ t258 t261 _ _ t262 _ _ t265 t268 _ ?side1 ?side2 ?side3 ?side4 ?side5 ?side6 ?side7 ?side8 A19.out).mono ?_
   (case side1 => exact mC (Kd.R_reads' HO257.out).2.2)
   (case side2 => exact (Kd.R_reads' HO257.out).2.1)
   (case side3 => exact mC (Kd.R_reads' HO260.out).2.2)
   (case side4 => exact (Kd.R_reads' HO260.out).2.1)
   (case side5 => exact mC (Kd.R_reads' HO264.out).2.2)
   (case side6 => exact (Kd.R_reads' HO264.out).2.1)
   (case side7 => exact mC (Kd.R_reads' HO267.out).2.2)
   (case side8 => exact (Kd.R_reads' HO267.out).2.1)
   rintro e w31 ⟨rfl, hb⟩
   refine ⟨_, rfl, ?_⟩
   have n0_ := z0 (Kd.R_below (mR HO257.out) hb)
   have n1_ := z0 (Kd.R_below (mR HO260.out) hb)
   have n2_ := z0 (Kd.R_below (mR HO264.out) hb)
   have n3_ := z0 (Kd.R_below (mR HO267.out) hb)
   have n4_ := z0 (blk_below (g := gb250) (o := .cells #[.int .i64 a0_0, .slice A0_1 l0_1.length c0_1, .slice A0_2 l0_2.length c0_2] 25 (0, 0)) (mK BK250.out) hb)
   have n5_ := z0 (blk_below (g := gb251) (o := .cells #[.int .i64 a1_0, .slice A1_1 l1_1.length c1_1, .slice A1_2 l1_2.length c1_2] 25 (0, 0)) (mK BK251.out) hb)
   have n6_ := z0 (below_step (mB HB.out) hb)
   clear HO257 HO260 HO264 HO267 BK250 BK251 HB
   have HO257 := n0_
   have HO260 := n1_
   have HO264 := n2_
   have HO267 := n3_
   have BK250 := n4_
   have BK251 := n5_
   have HB := n6_
   clear n0_ n1_ n2_ n3_ n4_ n5_ n6_
   (try clear hb)
   (try clear hb2)
   (try clear hk)
   (try clear hi)
   refine hK.out _ _ ⟨(blk_cell BK250.out 0).trans rfl, (blk_cell BK250.out 1).trans rfl, (blk_cell BK250.out 2).trans rfl, (blk_cell BK251.out 0).trans rfl, (blk_cell BK251.out 1).trans rfl, (blk_cell BK251.out 2).trans rfl⟩ (fun hHeld => ?_)
   clear hK K
   refine norm_ (a' := ?_) ?_ ?_
   rotate_left
   ·show Act.put _ (some 24) _ = _
    simp only [Act.put, List.setIfInBounds_toArray, List.set_cons_zero, List.set_cons_succ, i64_w, i32_w]
    rfl
   refine pure_ (i := 5) (N := some 6) (v := ?_) (a' := ?_) #[true, true, true, true, true, true] rfl rfl (by kernel_rfl) (fun _ _ _ h => h) (Or.inl ⟨by rfl, ?_⟩) ?_ ?_
   rotate_left
   ·intro w'
    go_simp
    with_reducible rfl
   rotate_left
   ·simp only [Act.put, List.setIfInBounds_toArray, List.set_cons_zero, List.set_cons_succ, i64_w, i32_w]
    rfl
   refine done_ (by kernel_rfl) ?_
   have hnb32 := NB250_251.out
   have hnc32 := NB251_250.out
   obtain ⟨hcz33_0, hcz33_1, hcz33_2, hfz33_0, hfz33_1, hfz33_2⟩ := cel3 BK250.out
   go_upto_if 34 with (first | ((with_reducible refine gate_callee (f := 10) rfl ?_); refine goesL_ (some 26) rfl rfl Try.func10 (by kernel_rfl) rfl #[.agg #[.int .i64 a0_0, .slice A0_1 l0_1.length c0_1, .slice A0_2 l0_2.length c0_2]] rfl argx ?_; (with_reducible refine (laws_toChart.calls k a0_0 _ _ l0_1 _ _ l0_2 t269 t270 t273 _ ?side1 ?side2 ?side3 ?side4 A20.out).mono ?_); (case side1 => exact mC (Kd.C_below HR0_1.out HB.out)); (case side2 => exact HC0_1.out); (case side3 => exact mC (Kd.C_below HR0_2.out HB.out)); (case side4 => exact HC0_2.out); rintro e w34 ⟨v271, v274, rfl, ho0, ho1, hb⟩; refine ⟨_, rfl, ?_⟩; have n0_ := z0 (Kd.R_elder' (mR HO257.out) (by first | exact Kd.R_base ho0 | exact Kd.R_base ho0) hb); have n1_ := z0 (Kd.R_elder' (mR HO260.out) (by first | exact Kd.R_base ho1 | exact Kd.R_base ho1) hb); have n2_ := z0 (Kd.R_elder' (mR HO264.out) (by first | exact Kd.R_base ho0 | exact Kd.R_base ho0) hb); have n3_ := z0 (Kd.R_elder' (mR HO267.out) (by first | exact Kd.R_base ho1 | exact Kd.R_base ho1) hb); have n4_ := z0 (Kd.R_lower (Kd.R_new' (Kd.R_new' ho0 (Kd.R_lt (mR HO257.out))) (Kd.R_lt (mR HO264.out))) (below_size (mB HB.out))); have n5_ := z0 (Kd.R_lower (Kd.R_new' (Kd.R_new' ho1 (Kd.R_lt (mR HO260.out))) (Kd.R_lt (mR HO267.out))) (below_size (mB HB.out))); have n6_ := z0 (blk_below (g := gb250) (o := .cells #[.int .i64 a0_0, .slice A0_1 l0_1.length c0_1, .slice A0_2 l0_2.length c0_2] 25 (0, 0)) (mK BK250.out) hb); have n7_ := z0 (blk_below (g := gb251) (o := .cells #[.int .i64 a1_0, .slice A1_1 l1_1.length c1_1, .slice A1_2 l1_2.length c1_2] 25 (0, 0)) (mK BK251.out) hb); have n8_ := z0 (below_step (mB HB.out) hb); clear HO257; clear HO260; clear HO264; clear HO267; clear BK250; clear BK251; clear HB; have HO257 := n0_; have HO260 := n1_; have HO264 := n2_; have HO267 := n3_; have HO272 := n4_; have HO275 := n5_; have BK250 := n6_; have BK251 := n7_; have HB := n8_; clear n0_ n1_ n2_ n3_ n4_ n5_ n6_ n7_ n8_; (try clear hb); (try clear hb2); (try clear hk); (try clear hi); (try clear ho0); (try clear ho1)) | ((with_reducible refine gate_dst (N := 7) rfl ?_); refine box_event ?hg (N := 7) ?hd (cs := #[.int .i64 0, .slice none 0 0, .slice none 0 0]) (t := 31) ?hr ?_; (case hd => rfl); (case hg => rfl); (case hr => first | (go_simp; done) | (go_simp; rfl)); intro gb276 hg w35 hbox hb; have n0_ := z0 (Kd.R_below (mR HO257.out) hb); have n1_ := z0 (Kd.R_below (mR HO260.out) hb); have n2_ := z0 (Kd.R_below (mR HO264.out) hb); have n3_ := z0 (Kd.R_below (mR HO267.out) hb); have n4_ := z0 (Kd.R_below (mR HO272.out) hb); have n5_ := z0 (Kd.R_below (mR HO275.out) hb); have n6_ := z0 (blk_below (g := gb250) (o := .cells #[.int .i64 a0_0, .slice A0_1 l0_1.length c0_1, .slice A0_2 l0_2.length c0_2] 25 (0, 0)) (mK BK250.out) hb); have n7_ := z0 (blk_below (g := gb251) (o := .cells #[.int .i64 a1_0, .slice A1_1 l1_1.length c1_1, .slice A1_2 l1_2.length c1_2] 25 (0, 0)) (mK BK251.out) hb); have n8_ := z0 (below_step (mB HB.out) hb); have n9_ := z0 (hbox); have n10_ := z0 ((by rw [hg]; exact (below_size (mB HB.out)) : w.heap.size ≤ gb276)); have n11_ := z0 ((by rw [hg]; exact (below_size (mB HB.out)) : w.heap.size ≤ gb276)); have n12_ := z0 ((by rw [hg]; exact Nat.ne_of_lt (blk_lt (g := gb250) (o := .cells #[.int .i64 a0_0, .slice A0_1 l0_1.length c0_1, .slice A0_2 l0_2.length c0_2] 25 (0, 0)) (mK BK250.out)) : gb250 ≠ gb276)); have n13_ := z0 ((by rw [hg]; exact Nat.ne_of_gt (blk_lt (g := gb250) (o := .cells #[.int .i64 a0_0, .slice A0_1 l0_1.length c0_1, .slice A0_2 l0_2.length c0_2] 25 (0, 0)) (mK BK250.out)) : gb276 ≠ gb250)); have n14_ := z0 ((by rw [hg]; exact Nat.ne_of_lt (blk_lt (g := gb251) (o := .cells #[.int .i64 a1_0, .slice A1_1 l1_1.length c1_1, .slice A1_2 l1_2.length c1_2] 25 (0, 0)) (mK BK251.out)) : gb251 ≠ gb276)); have n15_ := z0 ((by rw [hg]; exact Nat.ne_of_gt (blk_lt (g := gb251) (o := .cells #[.int .i64 a1_0, .slice A1_1 l1_1.length c1_1, .slice A1_2 l1_2.length c1_2] 25 (0, 0)) (mK BK251.out)) : gb276 ≠ gb251)); clear HO257; clear HO260; clear HO264; clear HO267; clear HO272; clear HO275; clear BK250; clear BK251; clear HB; have HO257 := n0_; have HO260 := n1_; have HO264 := n2_; have HO267 := n3_; have HO272 := n4_; have HO275 := n5_; have BK250 := n6_; have BK251 := n7_; have HB := n8_; have BK276 := n9_; have GW276 := n10_; have GE276 := n11_; have NB250_276 := n12_; have NB276_250 := n13_; have NB251_276 := n14_; have NB276_251 := n15_; clear n0_ n1_ n2_ n3_ n4_ n5_ n6_ n7_ n8_ n9_ n10_ n11_ n12_ n13_ n14_ n15_; clear hb hbox hg; have hnb36 := NB276_250.out; have hnc36 := NB250_276.out; have hnb37 := NB276_251.out; have hnc37 := NB251_276.out; obtain ⟨hcz38_0, hcz38_1, hcz38_2, hfz38_0, hfz38_1, hfz38_2⟩ := cel3 BK276.out; obtain ⟨Ao39, co39, eo39⟩ := Kd.R_slice HO272.out; subst eo39; obtain ⟨Ao40, co40, eo40⟩ := Kd.R_slice HO275.out; subst eo40; obtain ⟨hcz41_0, hcz41_1, hcz41_2, hfz41_0, hfz41_1, hfz41_2⟩ := cel3 BK251.out) | ((with_reducible refine gate_callee (f := 10) rfl ?_); refine goesL_ (some 28) rfl rfl Try.func10 (by kernel_rfl) rfl #[.agg #[.int .i64 a1_0, .slice A1_1 l1_1.length c1_1, .slice A1_2 l1_2.length c1_2]] rfl argx ?_; (with_reducible refine (laws_toChart.calls k a1_0 _ _ l1_1 _ _ l1_2 t277 t278 t281 _ ?side1 ?side2 ?side3 ?side4 A21.out).mono ?_); (case side1 => exact Kd.C_below HR1_1.out (mB HB.out)); (case side2 => exact HC1_1.out); (case side3 => exact Kd.C_below HR1_2.out (mB HB.out)); (case side4 => exact HC1_2.out); rintro e w42 ⟨v279, v282, rfl, ho0, ho1, hb⟩; refine ⟨_, rfl, ?_⟩; have n0_ := z0 (Kd.R_elder' (by (with_reducible repeat (first | apply Kd.R_alloc | apply Kd.R_drewN | apply Kd.R_drew)); exact (Kd.R_mono (Kd.R_far (p := ⟨gb276, 2, none⟩) (Kd.R_far (p := ⟨gb276, 1, none⟩) (Kd.R_far (p := ⟨gb276, 0, none⟩) (Kd.R_types HO257.out BK276.out (by decide)) (fun _ hk => hk.2) (.int .i64 t269)) (fun _ hk => hk.2) (.slice Ao39 t270.length co39)) (fun _ hk => hk.2) (.slice Ao40 t273.length co40)) (fun _ h_ => h_.1))) (by first | exact Kd.R_base ho0 | exact Kd.R_base ho0) hb); have n1_ := z0 (Kd.R_elder' (by (with_reducible repeat (first | apply Kd.R_alloc | apply Kd.R_drewN | apply Kd.R_drew)); exact (Kd.R_mono (Kd.R_far (p := ⟨gb276, 2, none⟩) (Kd.R_far (p := ⟨gb276, 1, none⟩) (Kd.R_far (p := ⟨gb276, 0, none⟩) (Kd.R_types HO260.out BK276.out (by decide)) (fun _ hk => hk.2) (.int .i64 t269)) (fun _ hk => hk.2) (.slice Ao39 t270.length co39)) (fun _ hk => hk.2) (.slice Ao40 t273.length co40)) (fun _ h_ => h_.1))) (by first | exact Kd.R_base ho1 | exact Kd.R_base ho1) hb); have n2_ := z0 (Kd.R_elder' (by (with_reducible repeat (first | apply Kd.R_alloc | apply Kd.R_drewN | apply Kd.R_drew)); exact (Kd.R_mono (Kd.R_far (p := ⟨gb276, 2, none⟩) (Kd.R_far (p := ⟨gb276, 1, none⟩) (Kd.R_far (p := ⟨gb276, 0, none⟩) (Kd.R_types HO264.out BK276.out (by decide)) (fun _ hk => hk.2) (.int .i64 t269)) (fun _ hk => hk.2) (.slice Ao39 t270.length co39)) (fun _ hk => hk.2) (.slice Ao40 t273.length co40)) (fun _ h_ => h_.1))) (by first | exact Kd.R_base ho0 | exact Kd.R_base ho0) hb); have n3_ := z0 (Kd.R_elder' (by (with_reducible repeat (first | apply Kd.R_alloc | apply Kd.R_drewN | apply Kd.R_drew)); exact (Kd.R_mono (Kd.R_far (p := ⟨gb276, 2, none⟩) (Kd.R_far (p := ⟨gb276, 1, none⟩) (Kd.R_far (p := ⟨gb276, 0, none⟩) (Kd.R_types HO267.out BK276.out (by decide)) (fun _ hk => hk.2) (.int .i64 t269)) (fun _ hk => hk.2) (.slice Ao39 t270.length co39)) (fun _ hk => hk.2) (.slice Ao40 t273.length co40)) (fun _ h_ => h_.1))) (by first | exact Kd.R_base ho1 | exact Kd.R_base ho1) hb); have n4_ := z0 (Kd.R_elder' (by (with_reducible repeat (first | apply Kd.R_alloc | apply Kd.R_drewN | apply Kd.R_drew)); exact (Kd.R_mono (Kd.R_far (p := ⟨gb276, 2, none⟩) (Kd.R_far (p := ⟨gb276, 1, none⟩) (Kd.R_far (p := ⟨gb276, 0, none⟩) (Kd.R_types HO272.out BK276.out (by decide)) (fun _ hk => hk.2) (.int .i64 t269)) (fun _ hk => hk.2) (.slice Ao39 t270.length co39)) (fun _ hk => hk.2) (.slice Ao40 t273.length co40)) (fun _ h_ => h_.1))) (by first | exact Kd.R_base ho0 | exact Kd.R_base ho0) hb); have n5_ := z0 (Kd.R_elder' (by (with_reducible repeat (first | apply Kd.R_alloc | apply Kd.R_drewN | apply Kd.R_drew)); exact (Kd.R_mono (Kd.R_far (p := ⟨gb276, 2, none⟩) (Kd.R_far (p := ⟨gb276, 1, none⟩) (Kd.R_far (p := ⟨gb276, 0, none⟩) (Kd.R_types HO275.out BK276.out (by decide)) (fun _ hk => hk.2) (.int .i64 t269)) (fun _ hk => hk.2) (.slice Ao39 t270.length co39)) (fun _ hk => hk.2) (.slice Ao40 t273.length co40)) (fun _ h_ => h_.1))) (by first | exact Kd.R_base ho1 | exact Kd.R_base ho1) hb); have n6_ := z0 (Kd.R_lower (Kd.R_new' (Kd.R_new' (Kd.R_new' ho0 (Kd.R_lt (by (with_reducible repeat (first | apply Kd.R_alloc | apply Kd.R_drewN | apply Kd.R_drew)); exact (Kd.R_mono (Kd.R_far (p := ⟨gb276, 2, none⟩) (Kd.R_far (p := ⟨gb276, 1, none⟩) (Kd.R_far (p := ⟨gb276, 0, none⟩) (Kd.R_types HO257.out BK276.out (by decide)) (fun _ hk => hk.2) (.int .i64 t269)) (fun _ hk => hk.2) (.slice Ao39 t270.length co39)) (fun _ hk => hk.2) (.slice Ao40 t273.length co40)) (fun _ h_ => h_.1))))) (Kd.R_lt (by (with_reducible repeat (first | apply Kd.R_alloc | apply Kd.R_drewN | apply Kd.R_drew)); exact (Kd.R_mono (Kd.R_far (p := ⟨gb276, 2, none⟩) (Kd.R_far (p := ⟨gb276, 1, none⟩) (Kd.R_far (p := ⟨gb276, 0, none⟩) (Kd.R_types HO264.out BK276.out (by decide)) (fun _ hk => hk.2) (.int .i64 t269)) (fun _ hk => hk.2) (.slice Ao39 t270.length co39)) (fun _ hk => hk.2) (.slice Ao40 t273.length co40)) (fun _ h_ => h_.1))))) (Kd.R_lt (by (with_reducible repeat (first | apply Kd.R_alloc | apply Kd.R_drewN | apply Kd.R_drew)); exact (Kd.R_mono (Kd.R_far (p := ⟨gb276, 2, none⟩) (Kd.R_far (p := ⟨gb276, 1, none⟩) (Kd.R_far (p := ⟨gb276, 0, none⟩) (Kd.R_types HO272.out BK276.out (by decide)) (fun _ hk => hk.2) (.int .i64 t269)) (fun _ hk => hk.2) (.slice Ao39 t270.length co39)) (fun _ hk => hk.2) (.slice Ao40 t273.length co40)) (fun _ h_ => h_.1))))) (below_size (mB HB.out))); have n7_ := z0 (Kd.R_lower (Kd.R_new' (Kd.R_new' (Kd.R_new' ho1 (Kd.R_lt (by (with_reducible repeat (first | apply Kd.R_alloc | apply Kd.R_drewN | apply Kd.R_drew)); exact (Kd.R_mono (Kd.R_far (p := ⟨gb276, 2, none⟩) (Kd.R_far (p := ⟨gb276, 1, none⟩) (Kd.R_far (p := ⟨gb276, 0, none⟩) (Kd.R_types HO260.out BK276.out (by decide)) (fun _ hk => hk.2) (.int .i64 t269)) (fun _ hk => hk.2) (.slice Ao39 t270.length co39)) (fun _ hk => hk.2) (.slice Ao40 t273.length co40)) (fun _ h_ => h_.1))))) (Kd.R_lt (by (with_reducible repeat (first | apply Kd.R_alloc | apply Kd.R_drewN | apply Kd.R_drew)); exact (Kd.R_mono (Kd.R_far (p := ⟨gb276, 2, none⟩) (Kd.R_far (p := ⟨gb276, 1, none⟩) (Kd.R_far (p := ⟨gb276, 0, none⟩) (Kd.R_types HO267.out BK276.out (by decide)) (fun _ hk => hk.2) (.int .i64 t269)) (fun _ hk => hk.2) (.slice Ao39 t270.length co39)) (fun _ hk => hk.2) (.slice Ao40 t273.length co40)) (fun _ h_ => h_.1))))) (Kd.R_lt (by (with_reducible repeat (first | apply Kd.R_alloc | apply Kd.R_drewN | apply Kd.R_drew)); exact (Kd.R_mono (Kd.R_far (p := ⟨gb276, 2, none⟩) (Kd.R_far (p := ⟨gb276, 1, none⟩) (Kd.R_far (p := ⟨gb276, 0, none⟩) (Kd.R_types HO275.out BK276.out (by decide)) (fun _ hk => hk.2) (.int .i64 t269)) (fun _ hk => hk.2) (.slice Ao39 t270.length co39)) (fun _ hk => hk.2) (.slice Ao40 t273.length co40)) (fun _ h_ => h_.1))))) (below_size (mB HB.out))); have n8_ := z0 (blk_below (g := gb250) (o := .cells #[.int .i64 a0_0, .slice A0_1 l0_1.length c0_1, .slice A0_2 l0_2.length c0_2] 25 (0, 0)) (by (with_reducible repeat (first | refine blk_drewN ?_ _ | refine blk_drew ?_ | refine blk_alloc ?_ _)); refine blk_far ?_ NB250_276.out _; (with_reducible repeat (first | refine blk_drewN ?_ _ | refine blk_drew ?_ | refine blk_alloc ?_ _)); refine blk_far ?_ NB250_276.out _; (with_reducible repeat (first | refine blk_drewN ?_ _ | refine blk_drew ?_ | refine blk_alloc ?_ _)); refine blk_far ?_ NB250_276.out _; (with_reducible repeat (first | refine blk_drewN ?_ _ | refine blk_drew ?_ | refine blk_alloc ?_ _)); exact BK250.out) hb); have n9_ := z0 (blk_below (g := gb251) (o := .cells #[.int .i64 a1_0, .slice A1_1 l1_1.length c1_1, .slice A1_2 l1_2.length c1_2] 25 (0, 0)) (by (with_reducible repeat (first | refine blk_drewN ?_ _ | refine blk_drew ?_ | refine blk_alloc ?_ _)); refine blk_far ?_ NB251_276.out _; (with_reducible repeat (first | refine blk_drewN ?_ _ | refine blk_drew ?_ | refine blk_alloc ?_ _)); refine blk_far ?_ NB251_276.out _; (with_reducible repeat (first | refine blk_drewN ?_ _ | refine blk_drew ?_ | refine blk_alloc ?_ _)); refine blk_far ?_ NB251_276.out _; (with_reducible repeat (first | refine blk_drewN ?_ _ | refine blk_drew ?_ | refine blk_alloc ?_ _)); exact BK251.out) hb); have n10_ := z0 (blk_below (g := gb276) (o := .cells #[.int .i64 t269, .slice Ao39 t270.length co39, .slice Ao40 t273.length co40] 31 (0, 0)) (by (with_reducible repeat (first | refine blk_drewN ?_ _ | refine blk_drew ?_ | refine blk_alloc ?_ _)); refine blk_put (cs := #[.int .i64 t269, .slice Ao39 t270.length co39, .slice none 0 0]) ?_ 2 _ rfl; (with_reducible repeat (first | refine blk_drewN ?_ _ | refine blk_drew ?_ | refine blk_alloc ?_ _)); refine blk_put (cs := #[.int .i64 t269, .slice none 0 0, .slice none 0 0]) ?_ 1 _ rfl; (with_reducible repeat (first | refine blk_drewN ?_ _ | refine blk_drew ?_ | refine blk_alloc ?_ _)); refine blk_put (cs := #[.int .i64 0, .slice none 0 0, .slice none 0 0]) ?_ 0 _ rfl; (with_reducible repeat (first | refine blk_drewN ?_ _ | refine blk_drew ?_ | refine blk_alloc ?_ _)); exact BK276.out) hb); have n11_ := z0 (below_step (mB HB.out) hb); clear HO257; clear HO260; clear HO264; clear HO267; clear HO272; clear HO275; clear BK250; clear BK251; clear BK276; clear HB; have HO257 := n0_; have HO260 := n1_; have HO264 := n2_; have HO267 := n3_; have HO272 := n4_; have HO275 := n5_; have HO280 := n6_; have HO283 := n7_; have BK250 := n8_; have BK251 := n9_; have BK276 := n10_; have HB := n11_; clear n0_ n1_ n2_ n3_ n4_ n5_ n6_ n7_ n8_ n9_ n10_ n11_; (try clear hb); (try clear hb2); (try clear hk); (try clear hi); (try clear ho0); (try clear ho1)) | ((with_reducible refine gate_dst (N := 8) rfl ?_); refine box_event ?hg (N := 8) ?hd (cs := #[.int .i64 0, .slice none 0 0, .slice none 0 0]) (t := 31) ?hr ?_; (case hd => rfl); (case hg => rfl); (case hr => first | (go_simp; done) | (go_simp; rfl)); intro gb284 hg w43 hbox hb; have n0_ := z0 (Kd.R_below (mR HO257.out) hb); have n1_ := z0 (Kd.R_below (mR HO260.out) hb); have n2_ := z0 (Kd.R_below (mR HO264.out) hb); have n3_ := z0 (Kd.R_below (mR HO267.out) hb); have n4_ := z0 (Kd.R_below (mR HO272.out) hb); have n5_ := z0 (Kd.R_below (mR HO275.out) hb); have n6_ := z0 (Kd.R_below (mR HO280.out) hb); have n7_ := z0 (Kd.R_below (mR HO283.out) hb); have n8_ := z0 (blk_below (g := gb250) (o := .cells #[.int .i64 a0_0, .slice A0_1 l0_1.length c0_1, .slice A0_2 l0_2.length c0_2] 25 (0, 0)) (mK BK250.out) hb); have n9_ := z0 (blk_below (g := gb251) (o := .cells #[.int .i64 a1_0, .slice A1_1 l1_1.length c1_1, .slice A1_2 l1_2.length c1_2] 25 (0, 0)) (mK BK251.out) hb); have n10_ := z0 (blk_below (g := gb276) (o := .cells #[.int .i64 t269, .slice Ao39 t270.length co39, .slice Ao40 t273.length co40] 31 (0, 0)) (mK BK276.out) hb); have n11_ := z0 (below_step (mB HB.out) hb); have n12_ := z0 (hbox); have n13_ := z0 ((by rw [hg]; exact (below_size (mB HB.out)) : w.heap.size ≤ gb284)); have n14_ := z0 ((by rw [hg]; exact (below_size (mB HB.out)) : w.heap.size ≤ gb284)); have n15_ := z0 ((by rw [hg]; exact Nat.ne_of_lt (blk_lt (g := gb250) (o := .cells #[.int .i64 a0_0, .slice A0_1 l0_1.length c0_1, .slice A0_2 l0_2.length c0_2] 25 (0, 0)) (mK BK250.out)) : gb250 ≠ gb284)); have n16_ := z0 ((by rw [hg]; exact Nat.ne_of_gt (blk_lt (g := gb250) (o := .cells #[.int .i64 a0_0, .slice A0_1 l0_1.length c0_1, .slice A0_2 l0_2.length c0_2] 25 (0, 0)) (mK BK250.out)) : gb284 ≠ gb250)); have n17_ := z0 ((by rw [hg]; exact Nat.ne_of_lt (blk_lt (g := gb251) (o := .cells #[.int .i64 a1_0, .slice A1_1 l1_1.length c1_1, .slice A1_2 l1_2.length c1_2] 25 (0, 0)) (mK BK251.out)) : gb251 ≠ gb284)); have n18_ := z0 ((by rw [hg]; exact Nat.ne_of_gt (blk_lt (g := gb251) (o := .cells #[.int .i64 a1_0, .slice A1_1 l1_1.length c1_1, .slice A1_2 l1_2.length c1_2] 25 (0, 0)) (mK BK251.out)) : gb284 ≠ gb251)); have n19_ := z0 ((by rw [hg]; exact Nat.ne_of_lt (blk_lt (g := gb276) (o := .cells #[.int .i64 t269, .slice Ao39 t270.length co39, .slice Ao40 t273.length co40] 31 (0, 0)) (mK BK276.out)) : gb276 ≠ gb284)); have n20_ := z0 ((by rw [hg]; exact Nat.ne_of_gt (blk_lt (g := gb276) (o := .cells #[.int .i64 t269, .slice Ao39 t270.length co39, .slice Ao40 t273.length co40] 31 (0, 0)) (mK BK276.out)) : gb284 ≠ gb276)); clear HO257; clear HO260; clear HO264; clear HO267; clear HO272; clear HO275; clear HO280; clear HO283; clear BK250; clear BK251; clear BK276; clear HB; have HO257 := n0_; have HO260 := n1_; have HO264 := n2_; have HO267 := n3_; have HO272 := n4_; have HO275 := n5_; have HO280 := n6_; have HO283 := n7_; have BK250 := n8_; have BK251 := n9_; have BK276 := n10_; have HB := n11_; have BK284 := n12_; have GW284 := n13_; have GE284 := n14_; have NB250_284 := n15_; have NB284_250 := n16_; have NB251_284 := n17_; have NB284_251 := n18_; have NB276_284 := n19_; have NB284_276 := n20_; clear n0_ n1_ n2_ n3_ n4_ n5_ n6_ n7_ n8_ n9_ n10_ n11_ n12_ n13_ n14_ n15_ n16_ n17_ n18_ n19_ n20_; clear hb hbox hg; have hnb44 := NB284_250.out; have hnc44 := NB250_284.out; have hnb45 := NB284_251.out; have hnc45 := NB251_284.out; have hnb46 := NB284_276.out; have hnc46 := NB276_284.out; obtain ⟨hcz47_0, hcz47_1, hcz47_2, hfz47_0, hfz47_1, hfz47_2⟩ := cel3 BK284.out; obtain ⟨Ao48, co48, eo48⟩ := Kd.R_slice HO280.out; subst eo48; obtain ⟨Ao49, co49, eo49⟩ := Kd.R_slice HO283.out; subst eo49; obtain ⟨hcz50_0, hcz50_1, hcz50_2, hfz50_0, hfz50_1, hfz50_2⟩ := cel3 BK276.out) | ((with_reducible refine gate_callee (f := 11) rfl ?_); refine goesL_ (some 31) rfl rfl Try.func11 (by kernel_rfl) rfl #[.agg #[.int .i64 t269, .slice Ao39 t270.length co39, .slice Ao40 t273.length co40], .agg #[.int .i64 t277, .slice Ao48 t278.length co48, .slice Ao49 t281.length co49]] rfl argx ?_; (with_reducible refine (impl_ChartSame.calls t269 _ _ t270 _ _ t273 t277 _ _ t278 _ _ t281 t285 _ ?side1 ?side2 ?side3 ?side4 ?side5 ?side6 ?side7 ?side8 A22.out).mono ?_); (case side1 => refine (Kd.R_reads' (e := 52) (base := w.heap.size) (ok := fun k_ => (((True ∧ nB k_ (.slice Ao27 t255.length co27)) ∧ nB k_ (.slice Ao29 t262.length co29)) ∧ nB k_ (.slice Ao48 t278.length co48))) (n := t270.length) (c := co39) ?_).2.2; exact (by (with_reducible repeat (first | apply Kd.R_alloc | apply Kd.R_drewN | apply Kd.R_drew)); exact (Kd.R_mono (Kd.R_far (p := ⟨gb284, 2, none⟩) (Kd.R_far (p := ⟨gb284, 1, none⟩) (Kd.R_far (p := ⟨gb284, 0, none⟩) (Kd.R_types HO272.out BK284.out (by decide)) (fun _ hk => hk.2) (.int .i64 t277)) (fun _ hk => hk.2) (.slice Ao48 t278.length co48)) (fun _ hk => hk.2) (.slice Ao49 t281.length co49)) (fun _ h_ => h_.1)))); (case side2 => exact (Kd.R_reads' HO272.out).2.1); (case side3 => refine (Kd.R_reads' (e := 92) (base := w.heap.size) (ok := fun k_ => (((True ∧ nB k_ (.slice Ao28 t258.length co28)) ∧ nB k_ (.slice Ao30 t265.length co30)) ∧ nB k_ (.slice Ao49 t281.length co49))) (n := t273.length) (c := co40) ?_).2.2; exact (by (with_reducible repeat (first | apply Kd.R_alloc | apply Kd.R_drewN | apply Kd.R_drew)); exact (Kd.R_mono (Kd.R_far (p := ⟨gb284, 2, none⟩) (Kd.R_far (p := ⟨gb284, 1, none⟩) (Kd.R_far (p := ⟨gb284, 0, none⟩) (Kd.R_types HO275.out BK284.out (by decide)) (fun _ hk => hk.2) (.int .i64 t277)) (fun _ hk => hk.2) (.slice Ao48 t278.length co48)) (fun _ hk => hk.2) (.slice Ao49 t281.length co49)) (fun _ h_ => h_.1)))); (case side4 => exact (Kd.R_reads' HO275.out).2.1); (case side5 => refine (Kd.R_reads' (e := 52) (base := w.heap.size) (ok := fun k_ => (((True ∧ nB k_ (.slice Ao27 t255.length co27)) ∧ nB k_ (.slice Ao29 t262.length co29)) ∧ nB k_ (.slice Ao39 t270.length co39))) (n := t278.length) (c := co48) ?_).2.2; exact (by (with_reducible repeat (first | apply Kd.R_alloc | apply Kd.R_drewN | apply Kd.R_drew)); exact (Kd.R_mono (Kd.R_far (p := ⟨gb284, 2, none⟩) (Kd.R_far (p := ⟨gb284, 1, none⟩) (Kd.R_far (p := ⟨gb284, 0, none⟩) (Kd.R_types HO280.out BK284.out (by decide)) (fun _ hk => hk.2) (.int .i64 t277)) (fun _ hk => hk.2) (.slice Ao48 t278.length co48)) (fun _ hk => hk.2) (.slice Ao49 t281.length co49)) (fun _ h_ => h_.1)))); (case side6 => exact (Kd.R_reads' HO280.out).2.1); (case side7 => refine (Kd.R_reads' (e := 92) (base := w.heap.size) (ok := fun k_ => (((True ∧ nB k_ (.slice Ao28 t258.length co28)) ∧ nB k_ (.slice Ao30 t265.length co30)) ∧ nB k_ (.slice Ao40 t273.length co40))) (n := t281.length) (c := co49) ?_).2.2; exact (by (with_reducible repeat (first | apply Kd.R_alloc | apply Kd.R_drewN | apply Kd.R_drew)); exact (Kd.R_mono (Kd.R_far (p := ⟨gb284, 2, none⟩) (Kd.R_far (p := ⟨gb284, 1, none⟩) (Kd.R_far (p := ⟨gb284, 0, none⟩) (Kd.R_types HO283.out BK284.out (by decide)) (fun _ hk => hk.2) (.int .i64 t277)) (fun _ hk => hk.2) (.slice Ao48 t278.length co48)) (fun _ hk => hk.2) (.slice Ao49 t281.length co49)) (fun _ h_ => h_.1)))); (case side8 => exact (Kd.R_reads' HO283.out).2.1); rintro e w51 ⟨rfl, hb⟩; refine ⟨_, rfl, ?_⟩; have n0_ := z0 (Kd.R_below (by (with_reducible repeat (first | apply Kd.R_alloc | apply Kd.R_drewN | apply Kd.R_drew)); exact (Kd.R_mono (Kd.R_far (p := ⟨gb284, 2, none⟩) (Kd.R_far (p := ⟨gb284, 1, none⟩) (Kd.R_far (p := ⟨gb284, 0, none⟩) (Kd.R_types HO257.out BK284.out (by decide)) (fun _ hk => hk.2) (.int .i64 t277)) (fun _ hk => hk.2) (.slice Ao48 t278.length co48)) (fun _ hk => hk.2) (.slice Ao49 t281.length co49)) (fun _ h_ => h_.1))) hb); have n1_ := z0 (Kd.R_below (by (with_reducible repeat (first | apply Kd.R_alloc | apply Kd.R_drewN | apply Kd.R_drew)); exact (Kd.R_mono (Kd.R_far (p := ⟨gb284, 2, none⟩) (Kd.R_far (p := ⟨gb284, 1, none⟩) (Kd.R_far (p := ⟨gb284, 0, none⟩) (Kd.R_types HO260.out BK284.out (by decide)) (fun _ hk => hk.2) (.int .i64 t277)) (fun _ hk => hk.2) (.slice Ao48 t278.length co48)) (fun _ hk => hk.2) (.slice Ao49 t281.length co49)) (fun _ h_ => h_.1))) hb); have n2_ := z0 (Kd.R_below (by (with_reducible repeat (first | apply Kd.R_alloc | apply Kd.R_drewN | apply Kd.R_drew)); exact (Kd.R_mono (Kd.R_far (p := ⟨gb284, 2, none⟩) (Kd.R_far (p := ⟨gb284, 1, none⟩) (Kd.R_far (p := ⟨gb284, 0, none⟩) (Kd.R_types HO264.out BK284.out (by decide)) (fun _ hk => hk.2) (.int .i64 t277)) (fun _ hk => hk.2) (.slice Ao48 t278.length co48)) (fun _ hk => hk.2) (.slice Ao49 t281.length co49)) (fun _ h_ => h_.1))) hb); have n3_ := z0 (Kd.R_below (by (with_reducible repeat (first | apply Kd.R_alloc | apply Kd.R_drewN | apply Kd.R_drew)); exact (Kd.R_mono (Kd.R_far (p := ⟨gb284, 2, none⟩) (Kd.R_far (p := ⟨gb284, 1, none⟩) (Kd.R_far (p := ⟨gb284, 0, none⟩) (Kd.R_types HO267.out BK284.out (by decide)) (fun _ hk => hk.2) (.int .i64 t277)) (fun _ hk => hk.2) (.slice Ao48 t278.length co48)) (fun _ hk => hk.2) (.slice Ao49 t281.length co49)) (fun _ h_ => h_.1))) hb); have n4_ := z0 (Kd.R_below (by (with_reducible repeat (first | apply Kd.R_alloc | apply Kd.R_drewN | apply Kd.R_drew)); exact (Kd.R_mono (Kd.R_far (p := ⟨gb284, 2, none⟩) (Kd.R_far (p := ⟨gb284, 1, none⟩) (Kd.R_far (p := ⟨gb284, 0, none⟩) (Kd.R_types HO272.out BK284.out (by decide)) (fun _ hk => hk.2) (.int .i64 t277)) (fun _ hk => hk.2) (.slice Ao48 t278.length co48)) (fun _ hk => hk.2) (.slice Ao49 t281.length co49)) (fun _ h_ => h_.1))) hb); have n5_ := z0 (Kd.R_below (by (with_reducible repeat (first | apply Kd.R_alloc | apply Kd.R_drewN | apply Kd.R_drew)); exact (Kd.R_mono (Kd.R_far (p := ⟨gb284, 2, none⟩) (Kd.R_far (p := ⟨gb284, 1, none⟩) (Kd.R_far (p := ⟨gb284, 0, none⟩) (Kd.R_types HO275.out BK284.out (by decide)) (fun _ hk => hk.2) (.int .i64 t277)) (fun _ hk => hk.2) (.slice Ao48 t278.length co48)) (fun _ hk => hk.2) (.slice Ao49 t281.length co49)) (fun _ h_ => h_.1))) hb); have n6_ := z0 (Kd.R_below (by (with_reducible repeat (first | apply Kd.R_alloc | apply Kd.R_drewN | apply Kd.R_drew)); exact (Kd.R_mono (Kd.R_far (p := ⟨gb284, 2, none⟩) (Kd.R_far (p := ⟨gb284, 1, none⟩) (Kd.R_far (p := ⟨gb284, 0, none⟩) (Kd.R_types HO280.out BK284.out (by decide)) (fun _ hk => hk.2) (.int .i64 t277)) (fun _ hk => hk.2) (.slice Ao48 t278.length co48)) (fun _ hk => hk.2) (.slice Ao49 t281.length co49)) (fun _ h_ => h_.1))) hb); have n7_ := z0 (Kd.R_below (by (with_reducible repeat (first | apply Kd.R_alloc | apply Kd.R_drewN | apply Kd.R_drew)); exact (Kd.R_mono (Kd.R_far (p := ⟨gb284, 2, none⟩) (Kd.R_far (p := ⟨gb284, 1, none⟩) (Kd.R_far (p := ⟨gb284, 0, none⟩) (Kd.R_types HO283.out BK284.out (by decide)) (fun _ hk => hk.2) (.int .i64 t277)) (fun _ hk => hk.2) (.slice Ao48 t278.length co48)) (fun _ hk => hk.2) (.slice Ao49 t281.length co49)) (fun _ h_ => h_.1))) hb); have n8_ := z0 (blk_below (g := gb250) (o := .cells #[.int .i64 a0_0, .slice A0_1 l0_1.length c0_1, .slice A0_2 l0_2.length c0_2] 25 (0, 0)) (by (with_reducible repeat (first | refine blk_drewN ?_ _ | refine blk_drew ?_ | refine blk_alloc ?_ _)); refine blk_far ?_ NB250_284.out _; (with_reducible repeat (first | refine blk_drewN ?_ _ | refine blk_drew ?_ | refine blk_alloc ?_ _)); refine blk_far ?_ NB250_284.out _; (with_reducible repeat (first | refine blk_drewN ?_ _ | refine blk_drew ?_ | refine blk_alloc ?_ _)); refine blk_far ?_ NB250_284.out _; (with_reducible repeat (first | refine blk_drewN ?_ _ | refine blk_drew ?_ | refine blk_alloc ?_ _)); exact BK250.out) hb); have n9_ := z0 (blk_below (g := gb251) (o := .cells #[.int .i64 a1_0, .slice A1_1 l1_1.length c1_1, .slice A1_2 l1_2.length c1_2] 25 (0, 0)) (by (with_reducible repeat (first | refine blk_drewN ?_ _ | refine blk_drew ?_ | refine blk_alloc ?_ _)); refine blk_far ?_ NB251_284.out _; (with_reducible repeat (first | refine blk_drewN ?_ _ | refine blk_drew ?_ | refine blk_alloc ?_ _)); refine blk_far ?_ NB251_284.out _; (with_reducible repeat (first | refine blk_drewN ?_ _ | refine blk_drew ?_ | refine blk_alloc ?_ _)); refine blk_far ?_ NB251_284.out _; (with_reducible repeat (first | refine blk_drewN ?_ _ | refine blk_drew ?_ | refine blk_alloc ?_ _)); exact BK251.out) hb); have n10_ := z0 (blk_below (g := gb276) (o := .cells #[.int .i64 t269, .slice Ao39 t270.length co39, .slice Ao40 t273.length co40] 31 (0, 0)) (by (with_reducible repeat (first | refine blk_drewN ?_ _ | refine blk_drew ?_ | refine blk_alloc ?_ _)); refine blk_far ?_ NB276_284.out _; (with_reducible repeat (first | refine blk_drewN ?_ _ | refine blk_drew ?_ | refine blk_alloc ?_ _)); refine blk_far ?_ NB276_284.out _; (with_reducible repeat (first | refine blk_drewN ?_ _ | refine blk_drew ?_ | refine blk_alloc ?_ _)); refine blk_far ?_ NB276_284.out _; (with_reducible repeat (first | refine blk_drewN ?_ _ | refine blk_drew ?_ | refine blk_alloc ?_ _)); exact BK276.out) hb); have n11_ := z0 (blk_below (g := gb284) (o := .cells #[.int .i64 t277, .slice Ao48 t278.length co48, .slice Ao49 t281.length co49] 31 (0, 0)) (by (with_reducible repeat (first | refine blk_drewN ?_ _ | refine blk_drew ?_ | refine blk_alloc ?_ _)); refine blk_put (cs := #[.int .i64 t277, .slice Ao48 t278.length co48, .slice none 0 0]) ?_ 2 _ rfl; (with_reducible repeat (first | refine blk_drewN ?_ _ | refine blk_drew ?_ | refine blk_alloc ?_ _)); refine blk_put (cs := #[.int .i64 t277, .slice none 0 0, .slice none 0 0]) ?_ 1 _ rfl; (with_reducible repeat (first | refine blk_drewN ?_ _ | refine blk_drew ?_ | refine blk_alloc ?_ _)); refine blk_put (cs := #[.int .i64 0, .slice none 0 0, .slice none 0 0]) ?_ 0 _ rfl; (with_reducible repeat (first | refine blk_drewN ?_ _ | refine blk_drew ?_ | refine blk_alloc ?_ _)); exact BK284.out) hb); have n12_ := z0 (below_step (mB HB.out) hb); clear HO257; clear HO260; clear HO264; clear HO267; clear HO272; clear HO275; clear HO280; clear HO283; clear BK250; clear BK251; clear BK276; clear BK284; clear HB; have HO257 := n0_; have HO260 := n1_; have HO264 := n2_; have HO267 := n3_; have HO272 := n4_; have HO275 := n5_; have HO280 := n6_; have HO283 := n7_; have BK250 := n8_; have BK251 := n9_; have BK276 := n10_; have BK284 := n11_; have HB := n12_; clear n0_ n1_ n2_ n3_ n4_ n5_ n6_ n7_ n8_ n9_ n10_ n11_ n12_; (try clear hb); (try clear hb2); (try clear hk); (try clear hi)))
   (try simp only [Act.put, List.setIfInBounds_toArray, List.set_cons_zero, List.set_cons_succ])
   have H := HF23.out
   clear HF23
   (try clear c1); (try clear p2); (try clear c3); (try clear c4); (try clear c7); (try clear c8); (try clear c9); (try clear c10); (try clear c10b0); (try clear c11); (try clear c13); (try clear c16); (try clear c16b0); (try clear c32); (try clear c36); (try clear c37); (try clear c44); (try clear c45); (try clear c46); (try clear hcz14_0); (try clear hcz14_1); (try clear hcz14_2); (try clear hcz33_0); (try clear hcz33_1); (try clear hcz33_2); (try clear hcz38_0); (try clear hcz38_1); (try clear hcz38_2); (try clear hcz41_0); (try clear hcz41_1); (try clear hcz41_2); (try clear hcz47_0); (try clear hcz47_1); (try clear hcz47_2); (try clear hcz50_0); (try clear hcz50_1); (try clear hcz50_2); (try clear hcz8_0); (try clear hcz8_1); (try clear hcz8_2); (try clear hfz14_0); (try clear hfz14_1); (try clear hfz14_2); (try clear hfz33_0); (try clear hfz33_1); (try clear hfz33_2); (try clear hfz38_0); (try clear hfz38_1); (try clear hfz38_2); (try clear hfz41_0); (try clear hfz41_1); (try clear hfz41_2); (try clear hfz47_0); (try clear hfz47_1); (try clear hfz47_2); (try clear hfz50_0); (try clear hfz50_1); (try clear hfz50_2); (try clear hfz8_0); (try clear hfz8_1); (try clear hfz8_2); (try clear p2)
   by_cases c52 : (t285 != t268) = true
   ·rw [if_pos c52] at H
    have c52b0 : (t285 != t268) = true := c52
    (try (have c52b4 : (!(t285 == t268)) = true := by revert c52; cases t285 <;> cases t268 <;> decide))
    (try (have c52b1 : decide (t285 = t268) = false := by simpa using c52))
    (try (have c52b2 : (t285 == t268) = false := by simpa using c52))
    (try (have c52b3 : ¬ (t285 = t268) := by simpa using c52))
    clear c52
    (first | rw [c52b0] | (simp only [i64_w, i32_w]; rw [c52b0]) | rw [c52b4] | skip)
    obtain rfl := Option.some.inj H
    go_wp2
    go_ret
    exact ⟨rfx, mB HB.out⟩
   ·rw [if_neg c52] at H
    have c52b0 : (t285 != t268) = false := by simpa using c52
    (try (have c52b4 : (!(t285 == t268)) = false := by revert c52; cases t285 <;> cases t268 <;> decide))
    (try (have c52b1 : decide (t285 = t268) = true := by simpa using c52))
    (try (have c52b2 : (t285 == t268) = true := by simpa using c52))
    clear c52
    (first | rw [c52b0] | (simp only [i64_w, i32_w]; rw [c52b0]) | rw [c52b4] | skip)
    replace H := Option.bind_eq_some_iff.mp H
    obtain ⟨⟨t286, t287, t290⟩, A530, H⟩ := H
    replace H : ((laws_eqChart.f k t269 t270 t273 t286 t287 t290).bind fun t293 => (if t293 = true then ((laws_toChart.f k a1_0 l1_1 l1_2).bind fun bt294 => ((laws_eqChart.f k t277 t278 t281 bt294.1 bt294.2.1 bt294.2.2).bind fun t301 => (if t301 = true then (some true) else (some false)))) else (some false))) = some r := H
    have A53 := z0 A530
    clear A530
    replace H := Option.bind_eq_some_iff.mp H
    obtain ⟨t293, A540, H⟩ := H
    replace H : (if t293 = true then ((laws_toChart.f k a1_0 l1_1 l1_2).bind fun bt294 => ((laws_eqChart.f k t277 t278 t281 bt294.1 bt294.2.1 bt294.2.2).bind fun t301 => (if t301 = true then (some true) else (some false)))) else (some false)) = some r := H
    have A54 := z0 A540
    clear A540
    have HF55 := z0 H
    clear H
    try go_wp2
    have n0_ := z0 (Kd.R_drew HO257.out)
    have n1_ := z0 (Kd.R_drew HO260.out)
    have n2_ := z0 (Kd.R_drew HO264.out)
    have n3_ := z0 (Kd.R_drew HO267.out)
    have n4_ := z0 (Kd.R_drew HO272.out)
    have n5_ := z0 (Kd.R_drew HO275.out)
    have n6_ := z0 (Kd.R_drew HO280.out)
    have n7_ := z0 (Kd.R_drew HO283.out)
    have n8_ := z0 (blk_drew BK250.out)
    have n9_ := z0 (blk_drew BK251.out)
    have n10_ := z0 (blk_drew BK276.out)
    have n11_ := z0 (blk_drew BK284.out)
    have n12_ := z0 (below_drew1 HB.out)
    clear HO257 HO260 HO264 HO267 HO272 HO275 HO280 HO283 BK250 BK251 BK276 BK284 HB
    have HO257 := n0_
    have HO260 := n1_
    have HO264 := n2_
    have HO267 := n3_
    have HO272 := n4_
    have HO275 := n5_
    have HO280 := n6_
    have HO283 := n7_
    have BK250 := n8_
    have BK251 := n9_
    have BK276 := n10_
    have BK284 := n11_
    have HB := n12_
    clear n0_ n1_ n2_ n3_ n4_ n5_ n6_ n7_ n8_ n9_ n10_ n11_ n12_
    refine start_ (n := 5) (S := fun w' => w'.cell? ⟨gb276, 0, none⟩ = some (.int .i64 t269) ∧ w'.cell? ⟨gb276, 1, none⟩ = some (.slice Ao39 t270.length co39) ∧ w'.cell? ⟨gb276, 2, none⟩ = some (.slice Ao40 t273.length co40) ∧ w'.cell? ⟨gb250, 0, none⟩ = some (.int .i64 a0_0) ∧ w'.cell? ⟨gb250, 1, none⟩ = some (.slice A0_1 l0_1.length c0_1) ∧ w'.cell? ⟨gb250, 2, none⟩ = some (.slice A0_2 l0_2.length c0_2)) (ds := []) #[false, false, false, false, false] (by kernel_rfl) rfl rfl ⟨(blk_cell BK276.out 0).trans rfl, (blk_cell BK276.out 1).trans rfl, (blk_cell BK276.out 2).trans rfl, (blk_cell BK250.out 0).trans rfl, (blk_cell BK250.out 1).trans rfl, (blk_cell BK250.out 2).trans rfl⟩ (fun hHeld => ?_)
    generalize w51.drew = w56 at HO257 HO260 HO264 HO267 HO272 HO275 HO280 HO283 BK250 BK251 BK276 BK284 HB hHeld ⊢
    refine take_ (i := 0) (N := some 35) (v := ?_) (a' := ?_) #[true, false, false, false, false] rfl rfl (by kernel_rfl) (fun _ _ _ h => h) (Or.inl ⟨by rfl, ?_⟩) hHeld ?_ ?_
    rotate_left
    ·rintro w' ⟨s0, s1, s2, s3, s4, s5⟩
     go_simp
     with_reducible rfl
    rotate_left
    ·simp only [Act.put, List.setIfInBounds_toArray, List.set_cons_zero, List.set_cons_succ, i64_w, i32_w]
     rfl
    refine take_ (i := 1) (N := some 36) (v := ?_) (a' := ?_) #[true, true, false, false, false] rfl rfl (by kernel_rfl) (fun _ _ _ h => h) (Or.inl ⟨by rfl, ?_⟩) hHeld ?_ ?_
    rotate_left
    ·rintro w' ⟨s0, s1, s2, s3, s4, s5⟩
     go_simp
     with_reducible rfl
    rotate_left
    ·simp only [Act.put, List.setIfInBounds_toArray, List.set_cons_zero, List.set_cons_succ, i64_w, i32_w]
     rfl
    refine one_ (i := 2) (N := some 37) #[true, true, true, false, false] rfl rfl (by kernel_rfl) (by decide) (fun K hK => ?_)
    refine goes_ Try.func10 (by kernel_rfl) rfl #[.agg #[.int .i64 a0_0, .slice A0_1 l0_1.length c0_1, .slice A0_2 l0_2.length c0_2]] (by rfl) rfl rfl argx ?_
    with_reducible refine (laws_toChart.calls k a0_0 _ _ l0_1 _ _ l0_2 t286 t287 t290 _ ?side1 ?side2 ?side3 ?side4 A53.out).mono ?_
    (case side1 => exact mC (Kd.C_below HR0_1.out HB.out))
    (case side2 => exact HC0_1.out)
    (case side3 => exact mC (Kd.C_below HR0_2.out HB.out))
    (case side4 => exact HC0_2.out)
    rintro e w57 ⟨v288, v291, rfl, ho0, ho1, hb⟩
    refine ⟨_, rfl, ?_⟩
    have n0_ := z0 (Kd.R_elder' (mR HO257.out) (by first | exact Kd.R_base ho0 | exact Kd.R_base ho0) hb)
    have n1_ := z0 (Kd.R_elder' (mR HO260.out) (by first | exact Kd.R_base ho1 | exact Kd.R_base ho1) hb)
    have n2_ := z0 (Kd.R_elder' (mR HO264.out) (by first | exact Kd.R_base ho0 | exact Kd.R_base ho0) hb)
    have n3_ := z0 (Kd.R_elder' (mR HO267.out) (by first | exact Kd.R_base ho1 | exact Kd.R_base ho1) hb)
    have n4_ := z0 (Kd.R_elder' (mR HO272.out) (by first | exact Kd.R_base ho0 | exact Kd.R_base ho0) hb)
    have n5_ := z0 (Kd.R_elder' (mR HO275.out) (by first | exact Kd.R_base ho1 | exact Kd.R_base ho1) hb)
    have n6_ := z0 (Kd.R_elder' (mR HO280.out) (by first | exact Kd.R_base ho0 | exact Kd.R_base ho0) hb)
    have n7_ := z0 (Kd.R_elder' (mR HO283.out) (by first | exact Kd.R_base ho1 | exact Kd.R_base ho1) hb)
    have n8_ := z0 (Kd.R_lower (Kd.R_new' (Kd.R_new' (Kd.R_new' (Kd.R_new' ho0 (Kd.R_lt (mR HO257.out))) (Kd.R_lt (mR HO264.out))) (Kd.R_lt (mR HO272.out))) (Kd.R_lt (mR HO280.out))) (below_size (mB HB.out)))
    have n9_ := z0 (Kd.R_lower (Kd.R_new' (Kd.R_new' (Kd.R_new' (Kd.R_new' ho1 (Kd.R_lt (mR HO260.out))) (Kd.R_lt (mR HO267.out))) (Kd.R_lt (mR HO275.out))) (Kd.R_lt (mR HO283.out))) (below_size (mB HB.out)))
    have n10_ := z0 (blk_below (g := gb250) (o := .cells #[.int .i64 a0_0, .slice A0_1 l0_1.length c0_1, .slice A0_2 l0_2.length c0_2] 25 (0, 0)) (mK BK250.out) hb)
    have n11_ := z0 (blk_below (g := gb251) (o := .cells #[.int .i64 a1_0, .slice A1_1 l1_1.length c1_1, .slice A1_2 l1_2.length c1_2] 25 (0, 0)) (mK BK251.out) hb)
    have n12_ := z0 (blk_below (g := gb276) (o := .cells #[.int .i64 t269, .slice Ao39 t270.length co39, .slice Ao40 t273.length co40] 31 (0, 0)) (mK BK276.out) hb)
    have n13_ := z0 (blk_below (g := gb284) (o := .cells #[.int .i64 t277, .slice Ao48 t278.length co48, .slice Ao49 t281.length co49] 31 (0, 0)) (mK BK284.out) hb)
    have n14_ := z0 (below_step (mB HB.out) hb)
    clear HO257 HO260 HO264 HO267 HO272 HO275 HO280 HO283 BK250 BK251 BK276 BK284 HB
    have HO257 := n0_
    have HO260 := n1_
    have HO264 := n2_
    have HO267 := n3_
    have HO272 := n4_
    have HO275 := n5_
    have HO280 := n6_
    have HO283 := n7_
    have HO289 := n8_
    have HO292 := n9_
    have BK250 := n10_
    have BK251 := n11_
    have BK276 := n12_
    have BK284 := n13_
    have HB := n14_
    clear n0_ n1_ n2_ n3_ n4_ n5_ n6_ n7_ n8_ n9_ n10_ n11_ n12_ n13_ n14_
    (try clear hb)
    (try clear hb2)
    (try clear hk)
    (try clear hi)
    (try clear ho0)
    (try clear ho1)
    obtain ⟨Ao58, co58, eo58⟩ := Kd.R_slice HO289.out
    (first | subst eo58 | (injection eo58 with f1_ f2_ f3_; have f4_ := f1_.symm; have f5_ := f3_.symm; clear f1_ f2_ f3_; subst f4_; subst f5_))
    obtain ⟨Ao59, co59, eo59⟩ := Kd.R_slice HO292.out
    (first | subst eo59 | (injection eo59 with f1_ f2_ f3_; have f4_ := f1_.symm; have f5_ := f3_.symm; clear f1_ f2_ f3_; subst f4_; subst f5_))
    refine hK.out _ _ ⟨(blk_cell BK276.out 0).trans rfl, (blk_cell BK276.out 1).trans rfl, (blk_cell BK276.out 2).trans rfl, (blk_cell BK250.out 0).trans rfl, (blk_cell BK250.out 1).trans rfl, (blk_cell BK250.out 2).trans rfl⟩ (fun hHeld => ?_)
    clear hK K
    refine norm_ (a' := ?_) ?_ ?_
    rotate_left
    ·show Act.put _ (some 37) _ = _
     simp only [Act.put, List.setIfInBounds_toArray, List.set_cons_zero, List.set_cons_succ, i64_w, i32_w]
     rfl
    refine one_ (i := 3) (N := some 38) #[true, true, true, true, false] rfl rfl (by kernel_rfl) (by decide) (fun K hK => ?_)
    refine goes_ Try.func12 (by kernel_rfl) rfl #[.agg #[.int .i64 t269, .slice Ao39 t270.length co39, .slice Ao40 t273.length co40], .agg #[.int .i64 t286, .slice Ao58 t287.length co58, .slice Ao59 t290.length co59]] (by rfl) rfl rfl argx ?_
    with_reducible refine (laws_eqChart.calls k t269 _ _ t270 _ _ t273 t286 _ _ t287 _ _ t290 t293 _ ?side1 ?side2 ?side3 ?side4 ?side5 ?side6 ?side7 ?side8 A54.out).mono ?_
    (case side1 => exact mC (Kd.R_reads' HO272.out).2.2)
    (case side2 => exact (Kd.R_reads' HO272.out).2.1)
    (case side3 => exact mC (Kd.R_reads' HO275.out).2.2)
    (case side4 => exact (Kd.R_reads' HO275.out).2.1)
    (case side5 => exact mC (Kd.R_reads' HO289.out).2.2)
    (case side6 => exact (Kd.R_reads' HO289.out).2.1)
    (case side7 => exact mC (Kd.R_reads' HO292.out).2.2)
    (case side8 => exact (Kd.R_reads' HO292.out).2.1)
    rintro e w60 ⟨rfl, hb⟩
    refine ⟨_, rfl, ?_⟩
    have n0_ := z0 (Kd.R_below (mR HO257.out) hb)
    have n1_ := z0 (Kd.R_below (mR HO260.out) hb)
    have n2_ := z0 (Kd.R_below (mR HO264.out) hb)
    have n3_ := z0 (Kd.R_below (mR HO267.out) hb)
    have n4_ := z0 (Kd.R_below (mR HO272.out) hb)
    have n5_ := z0 (Kd.R_below (mR HO275.out) hb)
    have n6_ := z0 (Kd.R_below (mR HO280.out) hb)
    have n7_ := z0 (Kd.R_below (mR HO283.out) hb)
    have n8_ := z0 (Kd.R_below (mR HO289.out) hb)
    have n9_ := z0 (Kd.R_below (mR HO292.out) hb)
    have n10_ := z0 (blk_below (g := gb250) (o := .cells #[.int .i64 a0_0, .slice A0_1 l0_1.length c0_1, .slice A0_2 l0_2.length c0_2] 25 (0, 0)) (mK BK250.out) hb)
    have n11_ := z0 (blk_below (g := gb251) (o := .cells #[.int .i64 a1_0, .slice A1_1 l1_1.length c1_1, .slice A1_2 l1_2.length c1_2] 25 (0, 0)) (mK BK251.out) hb)
    have n12_ := z0 (blk_below (g := gb276) (o := .cells #[.int .i64 t269, .slice Ao39 t270.length co39, .slice Ao40 t273.length co40] 31 (0, 0)) (mK BK276.out) hb)
    have n13_ := z0 (blk_below (g := gb284) (o := .cells #[.int .i64 t277, .slice Ao48 t278.length co48, .slice Ao49 t281.length co49] 31 (0, 0)) (mK BK284.out) hb)
    have n14_ := z0 (below_step (mB HB.out) hb)
    clear HO257 HO260 HO264 HO267 HO272 HO275 HO280 HO283 HO289 HO292 BK250 BK251 BK276 BK284 HB
    have HO257 := n0_
    have HO260 := n1_
    have HO264 := n2_
    have HO267 := n3_
    have HO272 := n4_
    have HO275 := n5_
    have HO280 := n6_
    have HO283 := n7_
    have HO289 := n8_
    have HO292 := n9_
    have BK250 := n10_
    have BK251 := n11_
    have BK276 := n12_
    have BK284 := n13_
    have HB := n14_
    clear n0_ n1_ n2_ n3_ n4_ n5_ n6_ n7_ n8_ n9_ n10_ n11_ n12_ n13_ n14_
    (try clear hb)
    (try clear hb2)
    (try clear hk)
    (try clear hi)
    refine hK.out _ _ ⟨(blk_cell BK276.out 0).trans rfl, (blk_cell BK276.out 1).trans rfl, (blk_cell BK276.out 2).trans rfl, (blk_cell BK250.out 0).trans rfl, (blk_cell BK250.out 1).trans rfl, (blk_cell BK250.out 2).trans rfl⟩ (fun hHeld => ?_)
    clear hK K
    refine norm_ (a' := ?_) ?_ ?_
    rotate_left
    ·show Act.put _ (some 38) _ = _
     simp only [Act.put, List.setIfInBounds_toArray, List.set_cons_zero, List.set_cons_succ, i64_w, i32_w]
     rfl
    refine pure_ (i := 4) (N := some 39) (v := ?_) (a' := ?_) #[true, true, true, true, true] rfl rfl (by kernel_rfl) (fun _ _ _ h => h) (Or.inl ⟨by rfl, ?_⟩) ?_ ?_
    rotate_left
    ·intro w'
     go_simp
     with_reducible rfl
    rotate_left
    ·simp only [Act.put, List.setIfInBounds_toArray, List.set_cons_zero, List.set_cons_succ, i64_w, i32_w]
     rfl
    refine done_ (by kernel_rfl) ?_
    go_upto_if 39 with (fail)
    have H := HF55.out
    clear HF55
    (try clear c1); (try clear p2); (try clear c3); (try clear c4); (try clear c5); (try clear c7); (try clear c8); (try clear c9); (try clear c10); (try clear c10b0); (try clear c11); (try clear c12); (try clear c13); (try clear c16); (try clear c16b0); (try clear c32); (try clear c36); (try clear c37); (try clear c44); (try clear c45); (try clear c46); (try clear c52); (try clear c52b0); (try clear c52b1); (try clear c52b2); (try clear hcz14_0); (try clear hcz14_1); (try clear hcz14_2); (try clear hcz33_0); (try clear hcz33_1); (try clear hcz33_2); (try clear hcz38_0); (try clear hcz38_1); (try clear hcz38_2); (try clear hcz41_0); (try clear hcz41_1); (try clear hcz41_2); (try clear hcz47_0); (try clear hcz47_1); (try clear hcz47_2); (try clear hcz50_0); (try clear hcz50_1); (try clear hcz50_2); (try clear hcz8_0); (try clear hcz8_1); (try clear hcz8_2); (try clear hfz14_0); (try clear hfz14_1); (try clear hfz14_2); (try clear hfz33_0); (try clear hfz33_1); (try clear hfz33_2); (try clear hfz38_0); (try clear hfz38_1); (try clear hfz38_2); (try clear hfz41_0); (try clear hfz41_1); (try clear hfz41_2); (try clear hfz47_0); (try clear hfz47_1); (try clear hfz47_2); (try clear hfz50_0); (try clear hfz50_1); (try clear hfz50_2); (try clear hfz8_0); (try clear hfz8_1); (try clear hfz8_2); (try clear p2)
    by_cases c61 : t293 = true
    ·subst c61
     have H1 : ((laws_toChart.f k a1_0 l1_1 l1_2).bind fun bt294 => ((laws_eqChart.f k t277 t278 t281 bt294.1 bt294.2.1 bt294.2.2).bind fun t301 => (if t301 = true then (some true) else (some false)))) = some r := by rw [if_pos rfl] at H; exact H
     clear H
     have H := H1
     clear H1
     replace H := Option.bind_eq_some_iff.mp H
     obtain ⟨⟨t294, t295, t298⟩, A620, H⟩ := H
     replace H : ((laws_eqChart.f k t277 t278 t281 t294 t295 t298).bind fun t301 => (if t301 = true then (some true) else (some false))) = some r := H
     have A62 := z0 A620
     clear A620
     replace H := Option.bind_eq_some_iff.mp H
     obtain ⟨t301, A630, H⟩ := H
     replace H : (if t301 = true then (some true) else (some false)) = some r := H
     have A63 := z0 A630
     clear A630
     have HF64 := z0 H
     clear H
     try go_wp2
     have n0_ := z0 (Kd.R_drew HO257.out)
     have n1_ := z0 (Kd.R_drew HO260.out)
     have n2_ := z0 (Kd.R_drew HO264.out)
     have n3_ := z0 (Kd.R_drew HO267.out)
     have n4_ := z0 (Kd.R_drew HO272.out)
     have n5_ := z0 (Kd.R_drew HO275.out)
     have n6_ := z0 (Kd.R_drew HO280.out)
     have n7_ := z0 (Kd.R_drew HO283.out)
     have n8_ := z0 (Kd.R_drew HO289.out)
     have n9_ := z0 (Kd.R_drew HO292.out)
     have n10_ := z0 (blk_drew BK250.out)
     have n11_ := z0 (blk_drew BK251.out)
     have n12_ := z0 (blk_drew BK276.out)
     have n13_ := z0 (blk_drew BK284.out)
     have n14_ := z0 (below_drew1 HB.out)
     clear HO257 HO260 HO264 HO267 HO272 HO275 HO280 HO283 HO289 HO292 BK250 BK251 BK276 BK284 HB
     have HO257 := n0_
     have HO260 := n1_
     have HO264 := n2_
     have HO267 := n3_
     have HO272 := n4_
     have HO275 := n5_
     have HO280 := n6_
     have HO283 := n7_
     have HO289 := n8_
     have HO292 := n9_
     have BK250 := n10_
     have BK251 := n11_
     have BK276 := n12_
     have BK284 := n13_
     have HB := n14_
     clear n0_ n1_ n2_ n3_ n4_ n5_ n6_ n7_ n8_ n9_ n10_ n11_ n12_ n13_ n14_
     refine start_ (n := 5) (S := fun w' => w'.cell? ⟨gb284, 0, none⟩ = some (.int .i64 t277) ∧ w'.cell? ⟨gb284, 1, none⟩ = some (.slice Ao48 t278.length co48) ∧ w'.cell? ⟨gb284, 2, none⟩ = some (.slice Ao49 t281.length co49) ∧ w'.cell? ⟨gb251, 0, none⟩ = some (.int .i64 a1_0) ∧ w'.cell? ⟨gb251, 1, none⟩ = some (.slice A1_1 l1_1.length c1_1) ∧ w'.cell? ⟨gb251, 2, none⟩ = some (.slice A1_2 l1_2.length c1_2)) (ds := []) #[false, false, false, false, false] (by kernel_rfl) rfl rfl ⟨(blk_cell BK284.out 0).trans rfl, (blk_cell BK284.out 1).trans rfl, (blk_cell BK284.out 2).trans rfl, (blk_cell BK251.out 0).trans rfl, (blk_cell BK251.out 1).trans rfl, (blk_cell BK251.out 2).trans rfl⟩ (fun hHeld => ?_)
     generalize w60.drew = w65 at HO257 HO260 HO264 HO267 HO272 HO275 HO280 HO283 HO289 HO292 BK250 BK251 BK276 BK284 HB hHeld ⊢
     refine take_ (i := 0) (N := some 40) (v := ?_) (a' := ?_) #[true, false, false, false, false] rfl rfl (by kernel_rfl) (fun _ _ _ h => h) (Or.inl ⟨by rfl, ?_⟩) hHeld ?_ ?_
     rotate_left
     ·rintro w' ⟨s0, s1, s2, s3, s4, s5⟩
      go_simp
      with_reducible rfl
     rotate_left
     ·simp only [Act.put, List.setIfInBounds_toArray, List.set_cons_zero, List.set_cons_succ, i64_w, i32_w]
      rfl
     refine take_ (i := 1) (N := some 41) (v := ?_) (a' := ?_) #[true, true, false, false, false] rfl rfl (by kernel_rfl) (fun _ _ _ h => h) (Or.inl ⟨by rfl, ?_⟩) hHeld ?_ ?_
     rotate_left
     ·rintro w' ⟨s0, s1, s2, s3, s4, s5⟩
      go_simp
      with_reducible rfl
     rotate_left
     ·simp only [Act.put, List.setIfInBounds_toArray, List.set_cons_zero, List.set_cons_succ, i64_w, i32_w]
      rfl
     refine one_ (i := 2) (N := some 42) #[true, true, true, false, false] rfl rfl (by kernel_rfl) (by decide) (fun K hK => ?_)
     refine goes_ Try.func10 (by kernel_rfl) rfl #[.agg #[.int .i64 a1_0, .slice A1_1 l1_1.length c1_1, .slice A1_2 l1_2.length c1_2]] (by rfl) rfl rfl argx ?_
     with_reducible refine (laws_toChart.calls k a1_0 _ _ l1_1 _ _ l1_2 t294 t295 t298 _ ?side1 ?side2 ?side3 ?side4 A62.out).mono ?_
     (case side1 => exact mC (Kd.C_below HR1_1.out HB.out))
     (case side2 => exact HC1_1.out)
     (case side3 => exact mC (Kd.C_below HR1_2.out HB.out))
     (case side4 => exact HC1_2.out)
     rintro e w66 ⟨v296, v299, rfl, ho0, ho1, hb⟩
     refine ⟨_, rfl, ?_⟩
     have n0_ := z0 (Kd.R_elder' (mR HO257.out) (by first | exact Kd.R_base ho0 | exact Kd.R_base ho0) hb)
     have n1_ := z0 (Kd.R_elder' (mR HO260.out) (by first | exact Kd.R_base ho1 | exact Kd.R_base ho1) hb)
     have n2_ := z0 (Kd.R_elder' (mR HO264.out) (by first | exact Kd.R_base ho0 | exact Kd.R_base ho0) hb)
     have n3_ := z0 (Kd.R_elder' (mR HO267.out) (by first | exact Kd.R_base ho1 | exact Kd.R_base ho1) hb)
     have n4_ := z0 (Kd.R_elder' (mR HO272.out) (by first | exact Kd.R_base ho0 | exact Kd.R_base ho0) hb)
     have n5_ := z0 (Kd.R_elder' (mR HO275.out) (by first | exact Kd.R_base ho1 | exact Kd.R_base ho1) hb)
     have n6_ := z0 (Kd.R_elder' (mR HO280.out) (by first | exact Kd.R_base ho0 | exact Kd.R_base ho0) hb)
     have n7_ := z0 (Kd.R_elder' (mR HO283.out) (by first | exact Kd.R_base ho1 | exact Kd.R_base ho1) hb)
     have n8_ := z0 (Kd.R_elder' (mR HO289.out) (by first | exact Kd.R_base ho0 | exact Kd.R_base ho0) hb)
     have n9_ := z0 (Kd.R_elder' (mR HO292.out) (by first | exact Kd.R_base ho1 | exact Kd.R_base ho1) hb)
     have n10_ := z0 (Kd.R_lower (Kd.R_new' (Kd.R_new' (Kd.R_new' (Kd.R_new' (Kd.R_new' ho0 (Kd.R_lt (mR HO257.out))) (Kd.R_lt (mR HO264.out))) (Kd.R_lt (mR HO272.out))) (Kd.R_lt (mR HO280.out))) (Kd.R_lt (mR HO289.out))) (below_size (mB HB.out)))
     have n11_ := z0 (Kd.R_lower (Kd.R_new' (Kd.R_new' (Kd.R_new' (Kd.R_new' (Kd.R_new' ho1 (Kd.R_lt (mR HO260.out))) (Kd.R_lt (mR HO267.out))) (Kd.R_lt (mR HO275.out))) (Kd.R_lt (mR HO283.out))) (Kd.R_lt (mR HO292.out))) (below_size (mB HB.out)))
     have n12_ := z0 (blk_below (g := gb250) (o := .cells #[.int .i64 a0_0, .slice A0_1 l0_1.length c0_1, .slice A0_2 l0_2.length c0_2] 25 (0, 0)) (mK BK250.out) hb)
     have n13_ := z0 (blk_below (g := gb251) (o := .cells #[.int .i64 a1_0, .slice A1_1 l1_1.length c1_1, .slice A1_2 l1_2.length c1_2] 25 (0, 0)) (mK BK251.out) hb)
     have n14_ := z0 (blk_below (g := gb276) (o := .cells #[.int .i64 t269, .slice Ao39 t270.length co39, .slice Ao40 t273.length co40] 31 (0, 0)) (mK BK276.out) hb)
     have n15_ := z0 (blk_below (g := gb284) (o := .cells #[.int .i64 t277, .slice Ao48 t278.length co48, .slice Ao49 t281.length co49] 31 (0, 0)) (mK BK284.out) hb)
     have n16_ := z0 (below_step (mB HB.out) hb)
     clear HO257 HO260 HO264 HO267 HO272 HO275 HO280 HO283 HO289 HO292 BK250 BK251 BK276 BK284 HB
     have HO257 := n0_
     have HO260 := n1_
     have HO264 := n2_
     have HO267 := n3_
     have HO272 := n4_
     have HO275 := n5_
     have HO280 := n6_
     have HO283 := n7_
     have HO289 := n8_
     have HO292 := n9_
     have HO297 := n10_
     have HO300 := n11_
     have BK250 := n12_
     have BK251 := n13_
     have BK276 := n14_
     have BK284 := n15_
     have HB := n16_
     clear n0_ n1_ n2_ n3_ n4_ n5_ n6_ n7_ n8_ n9_ n10_ n11_ n12_ n13_ n14_ n15_ n16_
     (try clear hb)
     (try clear hb2)
     (try clear hk)
     (try clear hi)
     (try clear ho0)
     (try clear ho1)
     obtain ⟨Ao67, co67, eo67⟩ := Kd.R_slice HO297.out
     (first | subst eo67 | (injection eo67 with f1_ f2_ f3_; have f4_ := f1_.symm; have f5_ := f3_.symm; clear f1_ f2_ f3_; subst f4_; subst f5_))
     obtain ⟨Ao68, co68, eo68⟩ := Kd.R_slice HO300.out
     (first | subst eo68 | (injection eo68 with f1_ f2_ f3_; have f4_ := f1_.symm; have f5_ := f3_.symm; clear f1_ f2_ f3_; subst f4_; subst f5_))
     refine hK.out _ _ ⟨(blk_cell BK284.out 0).trans rfl, (blk_cell BK284.out 1).trans rfl, (blk_cell BK284.out 2).trans rfl, (blk_cell BK251.out 0).trans rfl, (blk_cell BK251.out 1).trans rfl, (blk_cell BK251.out 2).trans rfl⟩ (fun hHeld => ?_)
     clear hK K
     refine norm_ (a' := ?_) ?_ ?_
     rotate_left
     ·show Act.put _ (some 42) _ = _
      simp only [Act.put, List.setIfInBounds_toArray, List.set_cons_zero, List.set_cons_succ, i64_w, i32_w]
      rfl
     refine one_ (i := 3) (N := some 43) #[true, true, true, true, false] rfl rfl (by kernel_rfl) (by decide) (fun K hK => ?_)
     refine goes_ Try.func12 (by kernel_rfl) rfl #[.agg #[.int .i64 t277, .slice Ao48 t278.length co48, .slice Ao49 t281.length co49], .agg #[.int .i64 t294, .slice Ao67 t295.length co67, .slice Ao68 t298.length co68]] (by rfl) rfl rfl argx ?_
     with_reducible refine (laws_eqChart.calls k t277 _ _ t278 _ _ t281 t294 _ _ t295 _ _ t298 t301 _ ?side1 ?side2 ?side3 ?side4 ?side5 ?side6 ?side7 ?side8 A63.out).mono ?_
     (case side1 => exact mC (Kd.R_reads' HO280.out).2.2)
     (case side2 => exact (Kd.R_reads' HO280.out).2.1)
     (case side3 => exact mC (Kd.R_reads' HO283.out).2.2)
     (case side4 => exact (Kd.R_reads' HO283.out).2.1)
     (case side5 => exact mC (Kd.R_reads' HO297.out).2.2)
     (case side6 => exact (Kd.R_reads' HO297.out).2.1)
     (case side7 => exact mC (Kd.R_reads' HO300.out).2.2)
     (case side8 => exact (Kd.R_reads' HO300.out).2.1)
     rintro e w69 ⟨rfl, hb⟩
     refine ⟨_, rfl, ?_⟩
     have n0_ := z0 (Kd.R_below (mR HO257.out) hb)
     have n1_ := z0 (Kd.R_below (mR HO260.out) hb)
     have n2_ := z0 (Kd.R_below (mR HO264.out) hb)
     have n3_ := z0 (Kd.R_below (mR HO267.out) hb)
     have n4_ := z0 (Kd.R_below (mR HO272.out) hb)
     have n5_ := z0 (Kd.R_below (mR HO275.out) hb)
     have n6_ := z0 (Kd.R_below (mR HO280.out) hb)
     have n7_ := z0 (Kd.R_below (mR HO283.out) hb)
     have n8_ := z0 (Kd.R_below (mR HO289.out) hb)
     have n9_ := z0 (Kd.R_below (mR HO292.out) hb)
     have n10_ := z0 (Kd.R_below (mR HO297.out) hb)
     have n11_ := z0 (Kd.R_below (mR HO300.out) hb)
     have n12_ := z0 (blk_below (g := gb250) (o := .cells #[.int .i64 a0_0, .slice A0_1 l0_1.length c0_1, .slice A0_2 l0_2.length c0_2] 25 (0, 0)) (mK BK250.out) hb)
     have n13_ := z0 (blk_below (g := gb251) (o := .cells #[.int .i64 a1_0, .slice A1_1 l1_1.length c1_1, .slice A1_2 l1_2.length c1_2] 25 (0, 0)) (mK BK251.out) hb)
     have n14_ := z0 (blk_below (g := gb276) (o := .cells #[.int .i64 t269, .slice Ao39 t270.length co39, .slice Ao40 t273.length co40] 31 (0, 0)) (mK BK276.out) hb)
     have n15_ := z0 (blk_below (g := gb284) (o := .cells #[.int .i64 t277, .slice Ao48 t278.length co48, .slice Ao49 t281.length co49] 31 (0, 0)) (mK BK284.out) hb)
     have n16_ := z0 (below_step (mB HB.out) hb)
     clear HO257 HO260 HO264 HO267 HO272 HO275 HO280 HO283 HO289 HO292 HO297 HO300 BK250 BK251 BK276 BK284 HB
     have HO257 := n0_
     have HO260 := n1_
     have HO264 := n2_
     have HO267 := n3_
     have HO272 := n4_
     have HO275 := n5_
     have HO280 := n6_
     have HO283 := n7_
     have HO289 := n8_
     have HO292 := n9_
     have HO297 := n10_
     have HO300 := n11_
     have BK250 := n12_
     have BK251 := n13_
     have BK276 := n14_
     have BK284 := n15_
     have HB := n16_
     clear n0_ n1_ n2_ n3_ n4_ n5_ n6_ n7_ n8_ n9_ n10_ n11_ n12_ n13_ n14_ n15_ n16_
     (try clear hb)
     (try clear hb2)
     (try clear hk)
     (try clear hi)
     refine hK.out _ _ ⟨(blk_cell BK284.out 0).trans rfl, (blk_cell BK284.out 1).trans rfl, (blk_cell BK284.out 2).trans rfl, (blk_cell BK251.out 0).trans rfl, (blk_cell BK251.out 1).trans rfl, (blk_cell BK251.out 2).trans rfl⟩ (fun hHeld => ?_)
     clear hK K
     refine norm_ (a' := ?_) ?_ ?_
     rotate_left
     ·show Act.put _ (some 43) _ = _
      simp only [Act.put, List.setIfInBounds_toArray, List.set_cons_zero, List.set_cons_succ, i64_w, i32_w]
      rfl
     refine pure_ (i := 4) (N := some 44) (v := ?_) (a' := ?_) #[true, true, true, true, true] rfl rfl (by kernel_rfl) (fun _ _ _ h => h) (Or.inl ⟨by rfl, ?_⟩) ?_ ?_
     rotate_left
     ·intro w'
      go_simp
      with_reducible rfl
     rotate_left
     ·simp only [Act.put, List.setIfInBounds_toArray, List.set_cons_zero, List.set_cons_succ, i64_w, i32_w]
      rfl
     refine done_ (by kernel_rfl) ?_
     go_upto_if 44 with (fail)
     have H := HF64.out
     clear HF64
     (try clear c1); (try clear p2); (try clear c3); (try clear c4); (try clear c5); (try clear c6); (try clear c7); (try clear c8); (try clear c9); (try clear c10); (try clear c10b0); (try clear c11); (try clear c12); (try clear c13); (try clear c16); (try clear c16b0); (try clear c32); (try clear c36); (try clear c37); (try clear c44); (try clear c45); (try clear c46); (try clear c52); (try clear c52b0); (try clear c52b1); (try clear c52b2); (try clear c61); (try clear hcz14_0); (try clear hcz14_1); (try clear hcz14_2); (try clear hcz33_0); (try clear hcz33_1); (try clear hcz33_2); (try clear hcz38_0); (try clear hcz38_1); (try clear hcz38_2); (try clear hcz41_0); (try clear hcz41_1); (try clear hcz41_2); (try clear hcz47_0); (try clear hcz47_1); (try clear hcz47_2); (try clear hcz50_0); (try clear hcz50_1); (try clear hcz50_2); (try clear hcz8_0); (try clear hcz8_1); (try clear hcz8_2); (try clear hfz14_0); (try clear hfz14_1); (try clear hfz14_2); (try clear hfz33_0); (try clear hfz33_1); (try clear hfz33_2); (try clear hfz38_0); (try clear hfz38_1); (try clear hfz38_2); (try clear hfz41_0); (try clear hfz41_1); (try clear hfz41_2); (try clear hfz47_0); (try clear hfz47_1); (try clear hfz47_2); (try clear hfz50_0); (try clear hfz50_1); (try clear hfz50_2); (try clear hfz8_0); (try clear hfz8_1); (try clear hfz8_2); (try clear p2)
     by_cases c70 : t301 = true
     ·subst c70
      have H1 : (some true) = some r := by rw [if_pos rfl] at H; exact H
      clear H
      have H := H1
      clear H1
      obtain rfl := Option.some.inj H
      go_wp2
      go_ret
      exact ⟨rfx, mB HB.out⟩
     ·replace c70 := Bool.eq_false_iff.mpr c70
      subst c70
      have H1 : (some false) = some r := by rw [if_neg (show ¬ (false = true) by decide)] at H; exact H
      clear H
      have H := H1
      clear H1
      obtain rfl := Option.some.inj H
      go_wp2
      go_ret
      exact ⟨rfx, mB HB.out⟩
    ·replace c61 := Bool.eq_false_iff.mpr c61
     subst c61
     have H1 : (some false) = some r := by rw [if_neg (show ¬ (false = true) by decide)] at H; exact H
     clear H
     have H := H1
     clear H1
     obtain rfl := Option.some.inj H
     go_wp2
     go_ret
     exact ⟨rfx, mB HB.out⟩

end Go.Proofs.Ytlmchfcfkfegaaa.B
