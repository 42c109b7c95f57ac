-- printed by base.py (this claim's tool) over the kit's print
import Derived.Test.YtfikglnnkbldaaaB0
import Derived.Test.YtfikglnnkbldaaaSq
import Derived.Test.YtfikglnnkbldaaaPkA
import Derived.Test.YtfikglnnkbldaaaPkB
import Derived.Test.YtfikglnnkbldaaaPkD
import Derived.Test.YtfikglnnkbldaaaZWrites
namespace Go.Proofs.Ytfikglnnkbldaaa.B
open Go.RowKit Go.Proofs.YtfikglnnkbldaaaW.PrintWords Go.Proofs.YtfikglnnkbldaaaW.PrintLast Go.Proofs.YtfikglnnkbldaaaW.PrintMore
attribute [local go_sem] max2_int min2_int max_two min_two max_three min_three max_four min_four   -- for this text's walks alone
set_option linter.unusedVariables false
set_option linter.unusedSimpArgs false

/-! ### laws_FnExactSlimWrites: function 5 -/
def laws_FnExactSlimWrites.f (k : Nat) (l0 : List (S60)) (a1_0 : Int) (a1_1 : Int) : Option (Bool) := (laws_szStmtS.f k l0 1048576).bind fun t258 => (if t258 < 0 then (some true) else ((laws_toStmtS.f k l0).bind fun t259 => ((laws_toAddr.f a1_0 a1_1).bind fun bt262 => ((spec_SlimWrites.f k t259 bt262.1 bt262.2).bind fun t264 => ((laws_toStmtS.f k l0).bind fun t265 => ((laws_toAddr.f a1_0 a1_1).bind fun bt268 => ((impl_SlimWrites.f t265 bt268.1 bt268.2).bind fun t270 => (if (t270 != t264) = true then (some false) else ((laws_toStmtS.f k l0).bind fun t271 => ((laws_eqStmtS.f k t265 t271).bind fun t274 => (if t274 = true then (some true) else (some false))))))))))))
theorem laws_FnExactSlimWrites.mono : ∀ a0 a1 a2 k, LeO (laws_FnExactSlimWrites.f k a0 a1 a2) (laws_FnExactSlimWrites.f (k + 1) a0 a1 a2) := by
 intro a0 a1 a2 k
 unfold laws_FnExactSlimWrites.f
 repeat' first
   | (with_reducible exact laws_eqStmtS.mono _ _ _)
   | (with_reducible exact laws_szStmtS.mono _ _ _)
   | (with_reducible exact laws_toStmtS.mono _ _)
   | (with_reducible exact spec_SlimWrites.mono _ _ _ _)
   | (with_reducible exact LeO.refl _)
   | (with_reducible exact LeO.none _)
   | (with_reducible refine LeO.ite ?_ ?_)
   | (with_reducible refine LeO.bind ?_ (fun _ => ?_))
   | exact laws_eqStmtS.mono _ _ _
   | exact laws_szStmtS.mono _ _ _
   | exact laws_toStmtS.mono _ _
   | exact spec_SlimWrites.mono _ _ _ _
   | exact LeO.none _
   | refine LeO.ite ?_ ?_
   | refine LeO.bind ?_ (fun _ => ?_)
set_option maxHeartbeats 8000000 in
set_option maxRecDepth 100000 in
theorem laws_FnExactSlimWrites.calls (k : Nat) (A0 : Option Addr) (c0 : Nat) (l0 : List (S60)) (a1_0 : Int) (a1_1 : Int) (r : Bool) (w : World) (hr0 : Kd.C k60 w A0 l0.length l0) (hc0 : l0.length ≤ c0) (h : laws_FnExactSlimWrites.f k l0 a1_0 a1_1 = some r) :
  Calls Try.prog 5 #[.slice A0 l0.length c0, .agg #[.int .i64 a1_0, .int .i64 a1_1]] w fun e w' => e = .returned (.bool r) ∧ Below w.heap.size w w' := by
 have hu31 := Try.underlying31
 have HR0 := z0 hr0
 have HC0 := z0 hc0
 clear hr0 hc0
 have HB := z0 (Below.refl w.heap.size w)
 have H : ((laws_szStmtS.f k l0 1048576).bind fun t258 => (if t258 < 0 then (some true) else ((laws_toStmtS.f k l0).bind fun t259 => ((laws_toAddr.f a1_0 a1_1).bind fun bt262 => ((spec_SlimWrites.f k t259 bt262.1 bt262.2).bind fun t264 => ((laws_toStmtS.f k l0).bind fun t265 => ((laws_toAddr.f a1_0 a1_1).bind fun bt268 => ((impl_SlimWrites.f t265 bt268.1 bt268.2).bind fun t270 => (if (t270 != t264) = true then (some false) else ((laws_toStmtS.f k l0).bind fun t271 => ((laws_eqStmtS.f k t265 t271).bind fun t274 => (if t274 = true then (some true) else (some false))))))))))))) = some r := h
 clear h
 replace H := Option.bind_eq_some_iff.mp H
 obtain ⟨t258, A30, H⟩ := H
 replace H : (if t258 < 0 then (some true) else ((laws_toStmtS.f k l0).bind fun t259 => ((laws_toAddr.f a1_0 a1_1).bind fun bt262 => ((spec_SlimWrites.f k t259 bt262.1 bt262.2).bind fun t264 => ((laws_toStmtS.f k l0).bind fun t265 => ((laws_toAddr.f a1_0 a1_1).bind fun bt268 => ((impl_SlimWrites.f t265 bt268.1 bt268.2).bind fun t270 => (if (t270 != t264) = true then (some false) else ((laws_toStmtS.f k l0).bind fun t271 => ((laws_eqStmtS.f k t265 t271).bind fun t274 => (if t274 = true then (some true) else (some false)))))))))))) = some r := H
 have A3 := z0 A30
 clear A30
 have HF4 := z0 H
 clear H
 go_enter Try.func5, Try.ntmps5
 go_upto_if 13 with (first | ((with_reducible refine gate_dst (N := 3) rfl ?_); refine box_event ?hg (N := 3) ?hd (cs := #[.int .i64 a1_0, .int .i64 a1_1]) (t := 31) ?hr ?_; (case hd => rfl); (case hg => rfl); (case hr => first | (go_simp; done) | (go_simp; rfl)); intro gb257 hg w5 hbox hb; have n0_ := z0 (below_step (mB HB.out) hb); have n1_ := z0 (hbox); have n2_ := z0 ((by rw [hg]; exact (below_size (mB HB.out)) : w.heap.size ≤ gb257)); have n3_ := z0 ((by rw [hg]; exact (below_size (mB HB.out)) : w.heap.size ≤ gb257)); clear HB; have HB := n0_; have BK257 := n1_; have GW257 := n2_; have GE257 := n3_; clear n0_ n1_ n2_ n3_; clear hb hbox hg) | ((with_reducible refine gate_callee (f := 7) rfl ?_); refine goesL_ (some 11) rfl rfl Try.func7 (by kernel_rfl) rfl #[.slice A0 l0.length c0, .int .i64 1048576] rfl argx ?_; (with_reducible refine (laws_szStmtS.calls k _ _ l0 1048576 t258 _ ?side1 ?side2 A3.out).mono ?_); (case side1 => exact mC (Kd.C_below HR0.out HB.out)); (case side2 => exact HC0.out); rintro e w6 ⟨rfl, hb⟩; refine ⟨_, rfl, ?_⟩; have n0_ := z0 (blk_below (g := gb257) (o := .cells #[.int .i64 a1_0, .int .i64 a1_1] 31 (0, 0)) (mK BK257.out) hb); have n1_ := z0 (below_step (mB HB.out) hb); clear BK257; clear HB; have BK257 := n0_; have HB := n1_; clear n0_ n1_; (try clear hb); (try clear hb2); (try clear hk); (try clear hi)))
 (try simp only [Act.put, List.setIfInBounds_toArray, List.set_cons_zero, List.set_cons_succ])
 have H := HF4.out
 clear HF4
 try clear c5
 by_cases c7 : t258 < 0
 ·rw [if_pos c7] at H
  have c7b0 : decide (t258 < 0) = true := decide_eq_true c7
  clear c7
  (first | rw [c7b0] | (simp only [i64_w, i32_w]; rw [c7b0]) | skip)
  obtain rfl := Option.some.inj H
  go_wp2
  go_ret
  exact ⟨rfx, mB HB.out⟩
 ·rw [if_neg c7] at H
  have c7b0 : decide (t258 < 0) = false := decide_eq_false c7
  clear c7
  (first | rw [c7b0] | (simp only [i64_w, i32_w]; rw [c7b0]) | skip)
  replace H := Option.bind_eq_some_iff.mp H
  obtain ⟨t259, A80, H⟩ := H
  replace H : ((laws_toAddr.f a1_0 a1_1).bind fun bt262 => ((spec_SlimWrites.f k t259 bt262.1 bt262.2).bind fun t264 => ((laws_toStmtS.f k l0).bind fun t265 => ((laws_toAddr.f a1_0 a1_1).bind fun bt268 => ((impl_SlimWrites.f t265 bt268.1 bt268.2).bind fun t270 => (if (t270 != t264) = true then (some false) else ((laws_toStmtS.f k l0).bind fun t271 => ((laws_eqStmtS.f k t265 t271).bind fun t274 => (if t274 = true then (some true) else (some false)))))))))) = some r := H
  have A8 := z0 A80
  clear A80
  replace H := Option.bind_eq_some_iff.mp H
  obtain ⟨⟨t262, t263⟩, A90, H⟩ := H
  replace H : ((spec_SlimWrites.f k t259 t262 t263).bind fun t264 => ((laws_toStmtS.f k l0).bind fun t265 => ((laws_toAddr.f a1_0 a1_1).bind fun bt268 => ((impl_SlimWrites.f t265 bt268.1 bt268.2).bind fun t270 => (if (t270 != t264) = true then (some false) else ((laws_toStmtS.f k l0).bind fun t271 => ((laws_eqStmtS.f k t265 t271).bind fun t274 => (if t274 = true then (some true) else (some false))))))))) = some r := H
  have A9 := z0 A90
  clear A90
  replace H := Option.bind_eq_some_iff.mp H
  obtain ⟨t264, A100, H⟩ := H
  replace H : ((laws_toStmtS.f k l0).bind fun t265 => ((laws_toAddr.f a1_0 a1_1).bind fun bt268 => ((impl_SlimWrites.f t265 bt268.1 bt268.2).bind fun t270 => (if (t270 != t264) = true then (some false) else ((laws_toStmtS.f k l0).bind fun t271 => ((laws_eqStmtS.f k t265 t271).bind fun t274 => (if t274 = true then (some true) else (some false)))))))) = some r := H
  have A10 := z0 A100
  clear A100
  replace H := Option.bind_eq_some_iff.mp H
  obtain ⟨t265, A110, H⟩ := H
  replace H : ((laws_toAddr.f a1_0 a1_1).bind fun bt268 => ((impl_SlimWrites.f t265 bt268.1 bt268.2).bind fun t270 => (if (t270 != t264) = true then (some false) else ((laws_toStmtS.f k l0).bind fun t271 => ((laws_eqStmtS.f k t265 t271).bind fun t274 => (if t274 = true then (some true) else (some false))))))) = some r := H
  have A11 := z0 A110
  clear A110
  replace H := Option.bind_eq_some_iff.mp H
  obtain ⟨⟨t268, t269⟩, A120, H⟩ := H
  replace H : ((impl_SlimWrites.f t265 t268 t269).bind fun t270 => (if (t270 != t264) = true then (some false) else ((laws_toStmtS.f k l0).bind fun t271 => ((laws_eqStmtS.f k t265 t271).bind fun t274 => (if t274 = true then (some true) else (some false)))))) = some r := H
  have A12 := z0 A120
  clear A120
  replace H := Option.bind_eq_some_iff.mp H
  obtain ⟨t270, A130, H⟩ := H
  replace H : (if (t270 != t264) = true then (some false) else ((laws_toStmtS.f k l0).bind fun t271 => ((laws_eqStmtS.f k t265 t271).bind fun t274 => (if t274 = true then (some true) else (some false))))) = some r := H
  have A13 := z0 A130
  clear A130
  have HF14 := z0 H
  clear H
  try go_wp2
  have n0_ := z0 (blk_drew BK257.out)
  have n1_ := z0 (below_drew1 HB.out)
  clear BK257 HB
  have BK257 := n0_
  have HB := n1_
  clear n0_ n1_
  refine start_ (n := 6) (S := fun w' => w'.cell? ⟨gb257, 0, none⟩ = some (.int .i64 a1_0) ∧ w'.cell? ⟨gb257, 1, none⟩ = some (.int .i64 a1_1)) (ds := []) #[false, false, false, false, false, false] (by kernel_rfl) rfl rfl ⟨(blk_cell BK257.out 0).trans rfl, (blk_cell BK257.out 1).trans rfl⟩ (fun hHeld => ?_)
  generalize w6.drew = w15 at BK257 HB hHeld ⊢
  refine pure_ (i := 0) (N := some 14) (v := ?_) (a' := ?_) #[true, false, false, false, false, false] rfl rfl (by kernel_rfl) (fun _ _ _ h => h) (Or.inl ⟨by rfl, ?_⟩) ?_ ?_
  rotate_left
  ·intro w'
   go_simp
   with_reducible rfl
  rotate_left
  ·simp only [Act.put, List.setIfInBounds_toArray, List.set_cons_zero, List.set_cons_succ, i64_w, i32_w]
   rfl
  refine take_ (i := 2) (N := some 16) (v := ?_) (a' := ?_) #[true, false, true, false, false, false] rfl rfl (by kernel_rfl) (fun _ _ _ h => h) (Or.inl ⟨by rfl, ?_⟩) hHeld ?_ ?_
  rotate_left
  ·rintro w' ⟨s0, s1⟩
   go_simp
   with_reducible rfl
  rotate_left
  ·simp only [Act.put, List.setIfInBounds_toArray, List.set_cons_zero, List.set_cons_succ, i64_w, i32_w]
   rfl
  refine one_ (i := 1) (N := some 15) #[true, true, true, false, false, false] rfl rfl (by kernel_rfl) (by decide) (fun K hK => ?_)
  refine goes_ Try.func9 (by kernel_rfl) rfl #[.slice A0 l0.length c0] (by rfl) rfl rfl argx ?_
  with_reducible refine (laws_toStmtS.calls k _ _ l0 t259 _ ?side1 ?side2 A8.out).mono ?_
  (case side1 => exact mC (Kd.C_below HR0.out HB.out))
  (case side2 => exact HC0.out)
  rintro e w16 ⟨v260, rfl, ho0, hb⟩
  refine ⟨_, rfl, ?_⟩
  have n0_ := z0 (Kd.R_lower ho0 (below_size (mB HB.out)))
  have n1_ := z0 (blk_below (g := gb257) (o := .cells #[.int .i64 a1_0, .int .i64 a1_1] 31 (0, 0)) (mK BK257.out) hb)
  have n2_ := z0 (below_step (mB HB.out) hb)
  clear BK257 HB
  have HO261 := n0_
  have BK257 := n1_
  have HB := n2_
  clear n0_ n1_ n2_
  (try clear hb)
  (try clear hb2)
  (try clear hk)
  (try clear hi)
  (try clear ho0)
  refine hK.out _ _ ⟨(blk_cell BK257.out 0).trans rfl, (blk_cell BK257.out 1).trans rfl⟩ (fun hHeld => ?_)
  clear hK K
  refine norm_ (a' := ?_) ?_ ?_
  rotate_left
  ·show Act.put _ (some 15) _ = _
   simp only [Act.put, List.setIfInBounds_toArray, List.set_cons_zero, List.set_cons_succ, i64_w, i32_w]
   rfl
  refine one_ (i := 3) (N := some 17) #[true, true, true, true, false, false] rfl rfl (by kernel_rfl) (by decide) (fun K hK => ?_)
  refine goes_ Try.func15 (by kernel_rfl) rfl #[.agg #[.int .i64 a1_0, .int .i64 a1_1]] (by rfl) rfl rfl argx ?_
  with_reducible refine (laws_toAddr.calls a1_0 a1_1 t262 t263 _ A9.out).mono ?_
  rintro e w17 ⟨rfl, hb⟩
  refine ⟨_, rfl, ?_⟩
  have n0_ := z0 (Kd.R_below (mR HO261.out) hb)
  have n1_ := z0 (blk_below (g := gb257) (o := .cells #[.int .i64 a1_0, .int .i64 a1_1] 31 (0, 0)) (mK BK257.out) hb)
  have n2_ := z0 (below_step (mB HB.out) hb)
  clear HO261 BK257 HB
  have HO261 := n0_
  have BK257 := n1_
  have HB := n2_
  clear n0_ n1_ n2_
  (try clear hb)
  (try clear hb2)
  (try clear hk)
  (try clear hi)
  obtain ⟨Ao18, co18, eo18⟩ := Kd.R_slice HO261.out
  (first | subst eo18 | (injection eo18 with f1_ f2_ f3_; have f4_ := f1_.symm; have f5_ := f3_.symm; clear f1_ f2_ f3_; subst f4_; subst f5_))
  refine hK.out _ _ ⟨(blk_cell BK257.out 0).trans rfl, (blk_cell BK257.out 1).trans rfl⟩ (fun hHeld => ?_)
  clear hK K
  refine norm_ (a' := ?_) ?_ ?_
  rotate_left
  ·show Act.put _ (some 17) _ = _
   simp only [Act.put, List.setIfInBounds_toArray, List.set_cons_zero, List.set_cons_succ, i64_w, i32_w]
   rfl
  refine one_ (i := 4) (N := some 18) #[true, true, true, true, true, false] rfl rfl (by kernel_rfl) (by decide) (fun K hK => ?_)
  refine goes_ Try.func14 (by kernel_rfl) rfl #[.slice Ao18 t259.length co18, .agg #[.int .i64 t262, .int .i64 t263]] (by rfl) rfl rfl argx ?_
  with_reducible refine (spec_SlimWrites.calls k _ _ t259 t262 t263 t264 _ ?side1 ?side2 A10.out).mono ?_
  (case side1 => exact mC (Kd.R_reads' HO261.out).2.2)
  (case side2 => exact (Kd.R_reads' HO261.out).2.1)
  rintro e w19 ⟨rfl, hb⟩
  refine ⟨_, rfl, ?_⟩
  have n0_ := z0 (Kd.R_below (mR HO261.out) hb)
  have n1_ := z0 (blk_below (g := gb257) (o := .cells #[.int .i64 a1_0, .int .i64 a1_1] 31 (0, 0)) (mK BK257.out) hb)
  have n2_ := z0 (below_step (mB HB.out) hb)
  clear HO261 BK257 HB
  have HO261 := n0_
  have BK257 := n1_
  have HB := n2_
  clear n0_ n1_ n2_
  (try clear hb)
  (try clear hb2)
  (try clear hk)
  (try clear hi)
  refine hK.out _ _ ⟨(blk_cell BK257.out 0).trans rfl, (blk_cell BK257.out 1).trans rfl⟩ (fun hHeld => ?_)
  clear hK K
  refine norm_ (a' := ?_) ?_ ?_
  rotate_left
  ·show Act.put _ (some 18) _ = _
   simp only [Act.put, List.setIfInBounds_toArray, List.set_cons_zero, List.set_cons_succ, i64_w, i32_w]
   rfl
  refine pure_ (i := 5) (N := some 6) (v := ?_) (a' := ?_) #[true, true, true, true, true, true] rfl rfl (by kernel_rfl) (fun _ _ _ h => h) (Or.inl ⟨by rfl, ?_⟩) ?_ ?_
  rotate_left
  ·intro w'
   go_simp
   with_reducible rfl
  rotate_left
  ·simp only [Act.put, List.setIfInBounds_toArray, List.set_cons_zero, List.set_cons_succ, i64_w, i32_w]
   rfl
  refine done_ (by kernel_rfl) ?_
  go_upto_if 27 with (first | ((with_reducible refine gate_callee (f := 9) rfl ?_); refine goesL_ (some 20) rfl rfl Try.func9 (by kernel_rfl) rfl #[.slice A0 l0.length c0] rfl argx ?_; (with_reducible refine (laws_toStmtS.calls k _ _ l0 t265 _ ?side1 ?side2 A11.out).mono ?_); (case side1 => exact mC (Kd.C_below HR0.out HB.out)); (case side2 => exact HC0.out); rintro e w20 ⟨v266, rfl, ho0, hb⟩; refine ⟨_, rfl, ?_⟩; have n0_ := z0 (Kd.R_elder' (mR HO261.out) (by first | exact Kd.R_base ho0 | exact Kd.R_base ho0) hb); have n1_ := z0 (Kd.R_lower (Kd.R_new' ho0 (Kd.R_lt (mR HO261.out))) (below_size (mB HB.out))); have n2_ := z0 (blk_below (g := gb257) (o := .cells #[.int .i64 a1_0, .int .i64 a1_1] 31 (0, 0)) (mK BK257.out) hb); have n3_ := z0 (below_step (mB HB.out) hb); clear HO261; clear BK257; clear HB; have HO261 := n0_; have HO267 := n1_; have BK257 := n2_; have HB := n3_; clear n0_ n1_ n2_ n3_; (try clear hb); (try clear hb2); (try clear hk); (try clear hi); (try clear ho0); obtain ⟨hcz21_0, hcz21_1, hfz21_0, hfz21_1⟩ := cel2 BK257.out) | ((with_reducible refine gate_callee (f := 15) rfl ?_); refine goesL_ (some 23) rfl rfl Try.func15 (by kernel_rfl) rfl #[.agg #[.int .i64 a1_0, .int .i64 a1_1]] rfl argx ?_; (with_reducible refine (laws_toAddr.calls a1_0 a1_1 t268 t269 _ A12.out).mono ?_); rintro e w22 ⟨rfl, hb⟩; refine ⟨_, rfl, ?_⟩; have n0_ := z0 (Kd.R_below (mR HO261.out) hb); have n1_ := z0 (Kd.R_below (mR HO267.out) hb); have n2_ := z0 (blk_below (g := gb257) (o := .cells #[.int .i64 a1_0, .int .i64 a1_1] 31 (0, 0)) (mK BK257.out) hb); have n3_ := z0 (below_step (mB HB.out) hb); clear HO261; clear HO267; clear BK257; clear HB; have HO261 := n0_; have HO267 := n1_; have BK257 := n2_; have HB := n3_; clear n0_ n1_ n2_ n3_; (try clear hb); (try clear hb2); (try clear hk); (try clear hi); obtain ⟨Ao23, co23, eo23⟩ := Kd.R_slice HO267.out; subst eo23) | ((with_reducible refine gate_callee (f := 16) rfl ?_); refine goesL_ (some 24) rfl rfl Try.func16 (by kernel_rfl) rfl #[.slice Ao23 t265.length co23, .agg #[.int .i64 t268, .int .i64 t269]] rfl argx ?_; (with_reducible refine (impl_SlimWrites.calls _ _ t265 t268 t269 t270 _ ?side1 ?side2 A13.out).mono ?_); (case side1 => exact mC (Kd.R_reads' HO267.out).2.2); (case side2 => exact (Kd.R_reads' HO267.out).2.1); rintro e w24 ⟨rfl, hb⟩; refine ⟨_, rfl, ?_⟩; have n0_ := z0 (Kd.R_below (mR HO261.out) hb); have n1_ := z0 (Kd.R_below (mR HO267.out) hb); have n2_ := z0 (blk_below (g := gb257) (o := .cells #[.int .i64 a1_0, .int .i64 a1_1] 31 (0, 0)) (mK BK257.out) hb); have n3_ := z0 (below_step (mB HB.out) hb); clear HO261; clear HO267; clear BK257; clear HB; have HO261 := n0_; have HO267 := n1_; have BK257 := n2_; have HB := n3_; clear n0_ n1_ n2_ n3_; (try clear hb); (try clear hb2); (try clear hk); (try clear hi)))
  (try simp only [Act.put, List.setIfInBounds_toArray, List.set_cons_zero, List.set_cons_succ])
  have H := HF14.out
  clear HF14
  (try clear c1); (try clear p2); (try clear c5); (try clear c7); (try clear c7b0); (try clear c9); (try clear c14); (try clear c15); (try clear c16); (try clear hcz21_0); (try clear hcz21_1); (try clear hfz21_0); (try clear hfz21_1)
  by_cases c25 : (t270 != t264) = true
  ·rw [if_pos c25] at H
   have c25b0 : (t270 != t264) = true := c25
   (try (have c25b4 : (!(t270 == t264)) = true := by revert c25; cases t270 <;> cases t264 <;> decide))
   (try (have c25b4 : (!(t270 == t264)) = true := by revert c25; cases t270 <;> cases t264 <;> decide))
   (try (have c25b1 : decide (t270 = t264) = false := by simpa using c25))
   (try (have c25b2 : (t270 == t264) = false := by simpa using c25))
   (try (have c25b3 : ¬ (t270 = t264) := by simpa using c25))
   clear c25
   (first | rw [c25b0] | (simp only [i64_w, i32_w]; rw [c25b0]) | rw [c25b4] | skip)
   obtain rfl := Option.some.inj H
   go_wp2
   go_ret
   exact ⟨rfx, mB HB.out⟩
  ·rw [if_neg c25] at H
   have c25b0 : (t270 != t264) = false := by simpa using c25
   (try (have c25b4 : (!(t270 == t264)) = false := by revert c25; cases t270 <;> cases t264 <;> decide))
   (try (have c25b4 : (!(t270 == t264)) = false := by revert c25; cases t270 <;> cases t264 <;> decide))
   (try (have c25b1 : decide (t270 = t264) = true := by simpa using c25))
   (try (have c25b2 : (t270 == t264) = true := by simpa using c25))
   clear c25
   (first | rw [c25b0] | (simp only [i64_w, i32_w]; rw [c25b0]) | rw [c25b4] | skip)
   replace H := Option.bind_eq_some_iff.mp H
   obtain ⟨t271, A260, H⟩ := H
   replace H : ((laws_eqStmtS.f k t265 t271).bind fun t274 => (if t274 = true then (some true) else (some false))) = some r := H
   have A26 := z0 A260
   clear A260
   replace H := Option.bind_eq_some_iff.mp H
   obtain ⟨t274, A270, H⟩ := H
   replace H : (if t274 = true then (some true) else (some false)) = some r := H
   have A27 := z0 A270
   clear A270
   have HF28 := z0 H
   clear H
   go_upto_if 32 with (first | ((with_reducible refine gate_callee (f := 9) rfl ?_); refine goesL_ (some 30) rfl rfl Try.func9 (by kernel_rfl) rfl #[.slice A0 l0.length c0] rfl argx ?_; (with_reducible refine (laws_toStmtS.calls k _ _ l0 t271 _ ?side1 ?side2 A26.out).mono ?_); (case side1 => exact mC (Kd.C_below HR0.out HB.out)); (case side2 => exact HC0.out); rintro e w29 ⟨v272, rfl, ho0, hb⟩; refine ⟨_, rfl, ?_⟩; have n0_ := z0 (Kd.R_elder' (mR HO261.out) (by first | exact Kd.R_base ho0 | exact Kd.R_base ho0) hb); have n1_ := z0 (Kd.R_elder' (mR HO267.out) (by first | exact Kd.R_base ho0 | exact Kd.R_base ho0) hb); have n2_ := z0 (Kd.R_lower (Kd.R_new' (Kd.R_new' ho0 (Kd.R_lt (mR HO261.out))) (Kd.R_lt (mR HO267.out))) (below_size (mB HB.out))); have n3_ := z0 (blk_below (g := gb257) (o := .cells #[.int .i64 a1_0, .int .i64 a1_1] 31 (0, 0)) (mK BK257.out) hb); have n4_ := z0 (below_step (mB HB.out) hb); clear HO261; clear HO267; clear BK257; clear HB; have HO261 := n0_; have HO267 := n1_; have HO273 := n2_; have BK257 := n3_; have HB := n4_; clear n0_ n1_ n2_ n3_ n4_; (try clear hb); (try clear hb2); (try clear hk); (try clear hi); (try clear ho0); obtain ⟨Ao30, co30, eo30⟩ := Kd.R_slice HO273.out; subst eo30) | ((with_reducible refine gate_callee (f := 11) rfl ?_); refine goesL_ (some 31) rfl rfl Try.func11 (by kernel_rfl) rfl #[.slice Ao23 t265.length co23, .slice Ao30 t271.length co30] rfl argx ?_; (with_reducible refine (laws_eqStmtS.calls k _ _ t265 _ _ t271 t274 _ ?side1 ?side2 ?side3 ?side4 A27.out).mono ?_); (case side1 => exact mC (Kd.R_reads' HO267.out).2.2); (case side2 => exact (Kd.R_reads' HO267.out).2.1); (case side3 => exact mC (Kd.R_reads' HO273.out).2.2); (case side4 => exact (Kd.R_reads' HO273.out).2.1); rintro e w31 ⟨rfl, hb⟩; refine ⟨_, rfl, ?_⟩; have n0_ := z0 (Kd.R_below (mR HO261.out) hb); have n1_ := z0 (Kd.R_below (mR HO267.out) hb); have n2_ := z0 (Kd.R_below (mR HO273.out) hb); have n3_ := z0 (blk_below (g := gb257) (o := .cells #[.int .i64 a1_0, .int .i64 a1_1] 31 (0, 0)) (mK BK257.out) hb); have n4_ := z0 (below_step (mB HB.out) hb); clear HO261; clear HO267; clear HO273; clear BK257; clear HB; have HO261 := n0_; have HO267 := n1_; have HO273 := n2_; have BK257 := n3_; have HB := n4_; clear n0_ n1_ n2_ n3_ n4_; (try clear hb); (try clear hb2); (try clear hk); (try clear hi)))
   (try simp only [Act.put, List.setIfInBounds_toArray, List.set_cons_zero, List.set_cons_succ])
   have H := HF28.out
   clear HF28
   (try clear c1); (try clear c2); (try clear p2); (try clear c5); (try clear c7); (try clear c7b0); (try clear c9); (try clear c11); (try clear c14); (try clear c15); (try clear c16); (try clear c25); (try clear c25b0); (try clear c25b1); (try clear c25b2); (try clear hcz21_0); (try clear hcz21_1); (try clear hfz21_0); (try clear hfz21_1); (try clear p2)
   by_cases c32 : t274 = true
   ·subst c32
    have H1 : (some true) = some r := by rw [if_pos rfl] at H; exact H
    clear H
    have H := H1
    clear H1
    obtain rfl := Option.some.inj H
    go_wp2
    go_ret
    exact ⟨rfx, mB HB.out⟩
   ·replace c32 := Bool.eq_false_iff.mpr c32
    subst c32
    have H1 : (some false) = some r := by rw [if_neg (show ¬ (false = true) by decide)] at H; exact H
    clear H
    have H := H1
    clear H1
    obtain rfl := Option.some.inj H
    go_wp2
    go_ret
    exact ⟨rfx, mB HB.out⟩

end Go.Proofs.Ytfikglnnkbldaaa.B
