-- printed by base.py (this claim's tool) over the kit's print
import Derived.Test.YtfikglnnkbldaaaB0
import Derived.Test.YtfikglnnkbldaaaSq
import Derived.Test.YtfikglnnkbldaaaPkA
import Derived.Test.YtfikglnnkbldaaaPkC
import Derived.Test.YtfikglnnkbldaaaZStOk
import Derived.Test.YtfikglnnkbldaaaPkB
namespace Go.Proofs.Ytfikglnnkbldaaa.B
open Go.RowKit Go.Proofs.YtfikglnnkbldaaaW.PrintWords Go.Proofs.YtfikglnnkbldaaaW.PrintLast Go.Proofs.YtfikglnnkbldaaaW.PrintMore
attribute [local go_sem] max2_int min2_int max_two min_two max_three min_three max_four min_four   -- for this text's walks alone
set_option linter.unusedVariables false
set_option linter.unusedSimpArgs false

/-! ### laws_FnExactStmtsOk: function 3 -/
def laws_FnExactStmtsOk.f (k : Nat) (l0 : List (S60)) : Option (Bool) := (laws_szStmtS.f k l0 1048576).bind fun t218 => (if t218 < 0 then (some true) else ((laws_toStmtS.f k l0).bind fun t219 => ((spec_StmtsOk.f k t219).bind fun t222 => ((laws_toStmtS.f k l0).bind fun t223 => ((impl_StmtsOk.f t223).bind fun t226 => (if (t226 != t222) = true then (some false) else ((laws_toStmtS.f k l0).bind fun t227 => ((laws_eqStmtS.f k t223 t227).bind fun t230 => (if t230 = true then (some true) else (some false))))))))))
set_option maxHeartbeats 8000000 in
set_option maxRecDepth 100000 in
theorem laws_FnExactStmtsOk.calls (k : Nat) (A0 : Option Addr) (c0 : Nat) (l0 : List (S60)) (r : Bool) (w : World) (hr0 : Kd.C k60 w A0 l0.length l0) (hc0 : l0.length ≤ c0) (h : laws_FnExactStmtsOk.f k l0 = some r) :
  Calls Try.prog 3 #[.slice A0 l0.length c0] w fun e w' => e = .returned (.bool r) ∧ Below w.heap.size w w' := by
 have HR0 := z0 hr0
 have HC0 := z0 hc0
 clear hr0 hc0
 have HB := z0 (Below.refl w.heap.size w)
 have H : ((laws_szStmtS.f k l0 1048576).bind fun t218 => (if t218 < 0 then (some true) else ((laws_toStmtS.f k l0).bind fun t219 => ((spec_StmtsOk.f k t219).bind fun t222 => ((laws_toStmtS.f k l0).bind fun t223 => ((impl_StmtsOk.f t223).bind fun t226 => (if (t226 != t222) = true then (some false) else ((laws_toStmtS.f k l0).bind fun t227 => ((laws_eqStmtS.f k t223 t227).bind fun t230 => (if t230 = true then (some true) else (some false))))))))))) = some r := h
 clear h
 replace H := Option.bind_eq_some_iff.mp H
 obtain ⟨t218, A20, H⟩ := H
 replace H : (if t218 < 0 then (some true) else ((laws_toStmtS.f k l0).bind fun t219 => ((spec_StmtsOk.f k t219).bind fun t222 => ((laws_toStmtS.f k l0).bind fun t223 => ((impl_StmtsOk.f t223).bind fun t226 => (if (t226 != t222) = true then (some false) else ((laws_toStmtS.f k l0).bind fun t227 => ((laws_eqStmtS.f k t223 t227).bind fun t230 => (if t230 = true then (some true) else (some false)))))))))) = some r := H
 have A2 := z0 A20
 clear A20
 have HF3 := z0 H
 clear H
 go_enter Try.func3, Try.ntmps3
 go_upto_if 11 with (first | ((with_reducible refine gate_callee (f := 7) rfl ?_); refine goesL_ (some 9) rfl rfl Try.func7 (by kernel_rfl) rfl #[.slice A0 l0.length c0, .int .i64 1048576] rfl argx ?_; (with_reducible refine (laws_szStmtS.calls k _ _ l0 1048576 t218 _ ?side1 ?side2 A2.out).mono ?_); (case side1 => exact mC HR0.out); (case side2 => exact HC0.out); rintro e w4 ⟨rfl, hb⟩; refine ⟨_, rfl, ?_⟩; have n0_ := z0 (below_step (mB HB.out) hb); clear HB; have HB := n0_; clear n0_; (try clear hb); (try clear hb2); (try clear hk); (try clear hi)))
 (try simp only [Act.put, List.setIfInBounds_toArray, List.set_cons_zero, List.set_cons_succ])
 have H := HF3.out
 clear HF3
 try clear c3
 by_cases c5 : t218 < 0
 ·rw [if_pos c5] at H
  have c5b0 : decide (t218 < 0) = true := decide_eq_true c5
  clear c5
  (first | rw [c5b0] | (simp only [i64_w, i32_w]; rw [c5b0]) | skip)
  obtain rfl := Option.some.inj H
  go_wp2
  go_ret
  exact ⟨rfx, mB HB.out⟩
 ·rw [if_neg c5] at H
  have c5b0 : decide (t218 < 0) = false := decide_eq_false c5
  clear c5
  (first | rw [c5b0] | (simp only [i64_w, i32_w]; rw [c5b0]) | skip)
  replace H := Option.bind_eq_some_iff.mp H
  obtain ⟨t219, A60, H⟩ := H
  replace H : ((spec_StmtsOk.f k t219).bind fun t222 => ((laws_toStmtS.f k l0).bind fun t223 => ((impl_StmtsOk.f t223).bind fun t226 => (if (t226 != t222) = true then (some false) else ((laws_toStmtS.f k l0).bind fun t227 => ((laws_eqStmtS.f k t223 t227).bind fun t230 => (if t230 = true then (some true) else (some false)))))))) = some r := H
  have A6 := z0 A60
  clear A60
  replace H := Option.bind_eq_some_iff.mp H
  obtain ⟨t222, A70, H⟩ := H
  replace H : ((laws_toStmtS.f k l0).bind fun t223 => ((impl_StmtsOk.f t223).bind fun t226 => (if (t226 != t222) = true then (some false) else ((laws_toStmtS.f k l0).bind fun t227 => ((laws_eqStmtS.f k t223 t227).bind fun t230 => (if t230 = true then (some true) else (some false))))))) = some r := H
  have A7 := z0 A70
  clear A70
  replace H := Option.bind_eq_some_iff.mp H
  obtain ⟨t223, A80, H⟩ := H
  replace H : ((impl_StmtsOk.f t223).bind fun t226 => (if (t226 != t222) = true then (some false) else ((laws_toStmtS.f k l0).bind fun t227 => ((laws_eqStmtS.f k t223 t227).bind fun t230 => (if t230 = true then (some true) else (some false)))))) = some r := H
  have A8 := z0 A80
  clear A80
  replace H := Option.bind_eq_some_iff.mp H
  obtain ⟨t226, A90, H⟩ := H
  replace H : (if (t226 != t222) = true then (some false) else ((laws_toStmtS.f k l0).bind fun t227 => ((laws_eqStmtS.f k t223 t227).bind fun t230 => (if t230 = true then (some true) else (some false))))) = some r := H
  have A9 := z0 A90
  clear A90
  have HF10 := z0 H
  clear H
  go_upto_if 21 with (first | ((with_reducible refine gate_callee (f := 9) rfl ?_); refine goesL_ (some 13) rfl rfl Try.func9 (by kernel_rfl) rfl #[.slice A0 l0.length c0] rfl argx ?_; (with_reducible refine (laws_toStmtS.calls k _ _ l0 t219 _ ?side1 ?side2 A6.out).mono ?_); (case side1 => exact mC (Kd.C_below HR0.out HB.out)); (case side2 => exact HC0.out); rintro e w11 ⟨v220, rfl, ho0, hb⟩; refine ⟨_, rfl, ?_⟩; have n0_ := z0 (Kd.R_lower ho0 (below_size (mB HB.out))); have n1_ := z0 (below_step (mB HB.out) hb); clear HB; have HO221 := n0_; have HB := n1_; clear n0_ n1_; (try clear hb); (try clear hb2); (try clear hk); (try clear hi); (try clear ho0); obtain ⟨Ao12, co12, eo12⟩ := Kd.R_slice HO221.out; subst eo12) | ((with_reducible refine gate_callee (f := 8) rfl ?_); refine goesL_ (some 14) rfl rfl Try.func8 (by kernel_rfl) rfl #[.slice Ao12 t219.length co12] rfl argx ?_; (with_reducible refine (spec_StmtsOk.calls k _ _ t219 t222 _ ?side1 ?side2 A7.out).mono ?_); (case side1 => exact mC (Kd.R_reads' HO221.out).2.2); (case side2 => exact (Kd.R_reads' HO221.out).2.1); rintro e w13 ⟨rfl, hb⟩; refine ⟨_, rfl, ?_⟩; have n0_ := z0 (Kd.R_below (mR HO221.out) hb); have n1_ := z0 (below_step (mB HB.out) hb); clear HO221; clear HB; have HO221 := n0_; have HB := n1_; clear n0_ n1_; (try clear hb); (try clear hb2); (try clear hk); (try clear hi)) | ((with_reducible refine gate_callee (f := 9) rfl ?_); refine goesL_ (some 16) rfl rfl Try.func9 (by kernel_rfl) rfl #[.slice A0 l0.length c0] rfl argx ?_; (with_reducible refine (laws_toStmtS.calls k _ _ l0 t223 _ ?side1 ?side2 A8.out).mono ?_); (case side1 => exact mC (Kd.C_below HR0.out HB.out)); (case side2 => exact HC0.out); rintro e w14 ⟨v224, rfl, ho0, hb⟩; refine ⟨_, rfl, ?_⟩; have n0_ := z0 (Kd.R_elder' (mR HO221.out) (by first | exact Kd.R_base ho0 | exact Kd.R_base ho0) hb); have n1_ := z0 (Kd.R_lower (Kd.R_new' ho0 (Kd.R_lt (mR HO221.out))) (below_size (mB HB.out))); have n2_ := z0 (below_step (mB HB.out) hb); clear HO221; clear HB; have HO221 := n0_; have HO225 := n1_; have HB := n2_; clear n0_ n1_ n2_; (try clear hb); (try clear hb2); (try clear hk); (try clear hi); (try clear ho0); obtain ⟨Ao15, co15, eo15⟩ := Kd.R_slice HO225.out; subst eo15) | ((with_reducible refine gate_callee (f := 10) rfl ?_); refine goesL_ (some 18) rfl rfl Try.func10 (by kernel_rfl) rfl #[.slice Ao15 t223.length co15] rfl argx ?_; (with_reducible refine (impl_StmtsOk.calls _ _ t223 t226 _ ?side1 ?side2 A9.out).mono ?_); (case side1 => exact mC (Kd.R_reads' HO225.out).2.2); (case side2 => exact (Kd.R_reads' HO225.out).2.1); rintro e w16 ⟨rfl, hb⟩; refine ⟨_, rfl, ?_⟩; have n0_ := z0 (Kd.R_below (mR HO221.out) hb); have n1_ := z0 (Kd.R_below (mR HO225.out) hb); have n2_ := z0 (below_step (mB HB.out) hb); clear HO221; clear HO225; clear HB; have HO221 := n0_; have HO225 := n1_; have HB := n2_; clear n0_ n1_ n2_; (try clear hb); (try clear hb2); (try clear hk); (try clear hi)))
  (try simp only [Act.put, List.setIfInBounds_toArray, List.set_cons_zero, List.set_cons_succ])
  have H := HF10.out
  clear HF10
  (try clear c1); (try clear p2); (try clear c3); (try clear c5); (try clear c5b0); (try clear c7); (try clear c8); (try clear c9); (try clear c10)
  by_cases c17 : (t226 != t222) = true
  ·rw [if_pos c17] at H
   have c17b0 : (t226 != t222) = true := c17
   (try (have c17b4 : (!(t226 == t222)) = true := by revert c17; cases t226 <;> cases t222 <;> decide))
   (try (have c17b4 : (!(t226 == t222)) = true := by revert c17; cases t226 <;> cases t222 <;> decide))
   (try (have c17b1 : decide (t226 = t222) = false := by simpa using c17))
   (try (have c17b2 : (t226 == t222) = false := by simpa using c17))
   (try (have c17b3 : ¬ (t226 = t222) := by simpa using c17))
   clear c17
   (first | rw [c17b0] | (simp only [i64_w, i32_w]; rw [c17b0]) | rw [c17b4] | skip)
   obtain rfl := Option.some.inj H
   go_wp2
   go_ret
   exact ⟨rfx, mB HB.out⟩
  ·rw [if_neg c17] at H
   have c17b0 : (t226 != t222) = false := by simpa using c17
   (try (have c17b4 : (!(t226 == t222)) = false := by revert c17; cases t226 <;> cases t222 <;> decide))
   (try (have c17b4 : (!(t226 == t222)) = false := by revert c17; cases t226 <;> cases t222 <;> decide))
   (try (have c17b1 : decide (t226 = t222) = true := by simpa using c17))
   (try (have c17b2 : (t226 == t222) = true := by simpa using c17))
   clear c17
   (first | rw [c17b0] | (simp only [i64_w, i32_w]; rw [c17b0]) | rw [c17b4] | skip)
   replace H := Option.bind_eq_some_iff.mp H
   obtain ⟨t227, A180, H⟩ := H
   replace H : ((laws_eqStmtS.f k t223 t227).bind fun t230 => (if t230 = true then (some true) else (some false))) = some r := H
   have A18 := z0 A180
   clear A180
   replace H := Option.bind_eq_some_iff.mp H
   obtain ⟨t230, A190, H⟩ := H
   replace H : (if t230 = true then (some true) else (some false)) = some r := H
   have A19 := z0 A190
   clear A190
   have HF20 := z0 H
   clear H
   go_upto_if 26 with (first | ((with_reducible refine gate_callee (f := 9) rfl ?_); refine goesL_ (some 24) rfl rfl Try.func9 (by kernel_rfl) rfl #[.slice A0 l0.length c0] rfl argx ?_; (with_reducible refine (laws_toStmtS.calls k _ _ l0 t227 _ ?side1 ?side2 A18.out).mono ?_); (case side1 => exact mC (Kd.C_below HR0.out HB.out)); (case side2 => exact HC0.out); rintro e w21 ⟨v228, rfl, ho0, hb⟩; refine ⟨_, rfl, ?_⟩; have n0_ := z0 (Kd.R_elder' (mR HO221.out) (by first | exact Kd.R_base ho0 | exact Kd.R_base ho0) hb); have n1_ := z0 (Kd.R_elder' (mR HO225.out) (by first | exact Kd.R_base ho0 | exact Kd.R_base ho0) hb); have n2_ := z0 (Kd.R_lower (Kd.R_new' (Kd.R_new' ho0 (Kd.R_lt (mR HO221.out))) (Kd.R_lt (mR HO225.out))) (below_size (mB HB.out))); have n3_ := z0 (below_step (mB HB.out) hb); clear HO221; clear HO225; clear HB; have HO221 := n0_; have HO225 := n1_; have HO229 := n2_; have HB := n3_; clear n0_ n1_ n2_ n3_; (try clear hb); (try clear hb2); (try clear hk); (try clear hi); (try clear ho0); obtain ⟨Ao22, co22, eo22⟩ := Kd.R_slice HO229.out; subst eo22) | ((with_reducible refine gate_callee (f := 11) rfl ?_); refine goesL_ (some 25) rfl rfl Try.func11 (by kernel_rfl) rfl #[.slice Ao15 t223.length co15, .slice Ao22 t227.length co22] rfl argx ?_; (with_reducible refine (laws_eqStmtS.calls k _ _ t223 _ _ t227 t230 _ ?side1 ?side2 ?side3 ?side4 A19.out).mono ?_); (case side1 => exact mC (Kd.R_reads' HO225.out).2.2); (case side2 => exact (Kd.R_reads' HO225.out).2.1); (case side3 => exact mC (Kd.R_reads' HO229.out).2.2); (case side4 => exact (Kd.R_reads' HO229.out).2.1); rintro e w23 ⟨rfl, hb⟩; refine ⟨_, rfl, ?_⟩; have n0_ := z0 (Kd.R_below (mR HO221.out) hb); have n1_ := z0 (Kd.R_below (mR HO225.out) hb); have n2_ := z0 (Kd.R_below (mR HO229.out) hb); have n3_ := z0 (below_step (mB HB.out) hb); clear HO221; clear HO225; clear HO229; clear HB; have HO221 := n0_; have HO225 := n1_; have HO229 := n2_; have HB := n3_; clear n0_ n1_ n2_ n3_; (try clear hb); (try clear hb2); (try clear hk); (try clear hi)))
   (try simp only [Act.put, List.setIfInBounds_toArray, List.set_cons_zero, List.set_cons_succ])
   have H := HF20.out
   clear HF20
   (try clear c1); (try clear p2); (try clear c3); (try clear c5); (try clear c5b0); (try clear c7); (try clear c8); (try clear c9); (try clear c10); (try clear c11); (try clear c17); (try clear c17b0); (try clear c17b1); (try clear c17b2); (try clear p2)
   by_cases c24 : t230 = true
   ·subst c24
    have H1 : (some true) = some r := by rw [if_pos rfl] at H; exact H
    clear H
    have H := H1
    clear H1
    obtain rfl := Option.some.inj H
    go_wp2
    go_ret
    exact ⟨rfx, mB HB.out⟩
   ·replace c24 := Bool.eq_false_iff.mpr c24
    subst c24
    have H1 : (some false) = some r := by rw [if_neg (show ¬ (false = true) by decide)] at H; exact H
    clear H
    have H := H1
    clear H1
    obtain rfl := Option.some.inj H
    go_wp2
    go_ret
    exact ⟨rfx, mB HB.out⟩

end Go.Proofs.Ytfikglnnkbldaaa.B
