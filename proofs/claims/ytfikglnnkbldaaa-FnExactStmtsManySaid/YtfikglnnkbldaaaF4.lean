-- printed by base.py (this claim's tool) over the kit's print
import Derived.Test.YtfikglnnkbldaaaB0
import Derived.Test.YtfikglnnkbldaaaSq
import Derived.Test.YtfikglnnkbldaaaPkA
import Derived.Test.YtfikglnnkbldaaaPkB
import Derived.Test.YtfikglnnkbldaaaPkC
import Derived.Test.YtfikglnnkbldaaaZStMany
namespace Go.Proofs.Ytfikglnnkbldaaa.B
open Go.RowKit Go.Proofs.YtfikglnnkbldaaaW.PrintWords Go.Proofs.YtfikglnnkbldaaaW.PrintLast Go.Proofs.YtfikglnnkbldaaaW.PrintMore
attribute [local go_sem] max2_int min2_int max_two min_two max_three min_three max_four min_four   -- for this text's walks alone
set_option linter.unusedVariables false
set_option linter.unusedSimpArgs false

/-! ### laws_FnExactStmtsMany: function 4 -/
def laws_FnExactStmtsMany.f (k : Nat) (l0 : List (S60)) : Option (Bool) := (laws_szStmtS.f k l0 1048576).bind fun t233 => (if t233 < 0 then (some true) else ((laws_toStmtS.f k l0).bind fun t234 => ((spec_StmtsMany.f k t234).bind fun t237 => ((laws_toStmtS.f k l0).bind fun t238 => ((impl_StmtsMany.f t238).bind fun t241 => (if t241 = t237 then ((laws_toStmtS.f k l0).bind fun t242 => ((laws_eqStmtS.f k t238 t242).bind fun t245 => (if t245 = true then (some true) else (some false)))) else (some false)))))))
set_option maxHeartbeats 8000000 in
set_option maxRecDepth 100000 in
theorem laws_FnExactStmtsMany.calls (k : Nat) (A0 : Option Addr) (c0 : Nat) (l0 : List (S60)) (r : Bool) (w : World) (hr0 : Kd.C k60 w A0 l0.length l0) (hc0 : l0.length ≤ c0) (h : laws_FnExactStmtsMany.f k l0 = some r) :
  Calls Try.prog 4 #[.slice A0 l0.length c0] w fun e w' => e = .returned (.bool r) ∧ Below w.heap.size w w' := by
 have HR0 := z0 hr0
 have HC0 := z0 hc0
 clear hr0 hc0
 have HB := z0 (Below.refl w.heap.size w)
 have H : ((laws_szStmtS.f k l0 1048576).bind fun t233 => (if t233 < 0 then (some true) else ((laws_toStmtS.f k l0).bind fun t234 => ((spec_StmtsMany.f k t234).bind fun t237 => ((laws_toStmtS.f k l0).bind fun t238 => ((impl_StmtsMany.f t238).bind fun t241 => (if t241 = t237 then ((laws_toStmtS.f k l0).bind fun t242 => ((laws_eqStmtS.f k t238 t242).bind fun t245 => (if t245 = true then (some true) else (some false)))) else (some false)))))))) = some r := h
 clear h
 replace H := Option.bind_eq_some_iff.mp H
 obtain ⟨t233, A20, H⟩ := H
 replace H : (if t233 < 0 then (some true) else ((laws_toStmtS.f k l0).bind fun t234 => ((spec_StmtsMany.f k t234).bind fun t237 => ((laws_toStmtS.f k l0).bind fun t238 => ((impl_StmtsMany.f t238).bind fun t241 => (if t241 = t237 then ((laws_toStmtS.f k l0).bind fun t242 => ((laws_eqStmtS.f k t238 t242).bind fun t245 => (if t245 = true then (some true) else (some false)))) else (some false))))))) = some r := H
 have A2 := z0 A20
 clear A20
 have HF3 := z0 H
 clear H
 go_enter Try.func4, Try.ntmps4
 go_upto_if 11 with (first | ((with_reducible refine gate_callee (f := 7) rfl ?_); refine goesL_ (some 9) rfl rfl Try.func7 (by kernel_rfl) rfl #[.slice A0 l0.length c0, .int .i64 1048576] rfl argx ?_; (with_reducible refine (laws_szStmtS.calls k _ _ l0 1048576 t233 _ ?side1 ?side2 A2.out).mono ?_); (case side1 => exact mC HR0.out); (case side2 => exact HC0.out); rintro e w4 ⟨rfl, hb⟩; refine ⟨_, rfl, ?_⟩; have n0_ := z0 (below_step (mB HB.out) hb); clear HB; have HB := n0_; clear n0_; (try clear hb); (try clear hb2); (try clear hk); (try clear hi)))
 (try simp only [Act.put, List.setIfInBounds_toArray, List.set_cons_zero, List.set_cons_succ])
 have H := HF3.out
 clear HF3
 try clear c4
 by_cases c5 : t233 < 0
 ·rw [if_pos c5] at H
  have c5b0 : decide (t233 < 0) = true := decide_eq_true c5
  clear c5
  (first | rw [c5b0] | (simp only [i64_w, i32_w]; rw [c5b0]) | skip)
  obtain rfl := Option.some.inj H
  go_wp2
  go_ret
  exact ⟨rfx, mB HB.out⟩
 ·rw [if_neg c5] at H
  have c5b0 : decide (t233 < 0) = false := decide_eq_false c5
  clear c5
  (first | rw [c5b0] | (simp only [i64_w, i32_w]; rw [c5b0]) | skip)
  replace H := Option.bind_eq_some_iff.mp H
  obtain ⟨t234, A60, H⟩ := H
  replace H : ((spec_StmtsMany.f k t234).bind fun t237 => ((laws_toStmtS.f k l0).bind fun t238 => ((impl_StmtsMany.f t238).bind fun t241 => (if t241 = t237 then ((laws_toStmtS.f k l0).bind fun t242 => ((laws_eqStmtS.f k t238 t242).bind fun t245 => (if t245 = true then (some true) else (some false)))) else (some false))))) = some r := H
  have A6 := z0 A60
  clear A60
  replace H := Option.bind_eq_some_iff.mp H
  obtain ⟨t237, A70, H⟩ := H
  replace H : ((laws_toStmtS.f k l0).bind fun t238 => ((impl_StmtsMany.f t238).bind fun t241 => (if t241 = t237 then ((laws_toStmtS.f k l0).bind fun t242 => ((laws_eqStmtS.f k t238 t242).bind fun t245 => (if t245 = true then (some true) else (some false)))) else (some false)))) = some r := H
  have A7 := z0 A70
  clear A70
  replace H := Option.bind_eq_some_iff.mp H
  obtain ⟨t238, A80, H⟩ := H
  replace H : ((impl_StmtsMany.f t238).bind fun t241 => (if t241 = t237 then ((laws_toStmtS.f k l0).bind fun t242 => ((laws_eqStmtS.f k t238 t242).bind fun t245 => (if t245 = true then (some true) else (some false)))) else (some false))) = some r := H
  have A8 := z0 A80
  clear A80
  replace H := Option.bind_eq_some_iff.mp H
  obtain ⟨t241, A90, H⟩ := H
  replace H : (if t241 = t237 then ((laws_toStmtS.f k l0).bind fun t242 => ((laws_eqStmtS.f k t238 t242).bind fun t245 => (if t245 = true then (some true) else (some false)))) else (some false)) = some r := H
  have A9 := z0 A90
  clear A90
  have HF10 := z0 H
  clear H
  go_upto_if 21 with (first | ((with_reducible refine gate_callee (f := 9) rfl ?_); refine goesL_ (some 13) rfl rfl Try.func9 (by kernel_rfl) rfl #[.slice A0 l0.length c0] rfl argx ?_; (with_reducible refine (laws_toStmtS.calls k _ _ l0 t234 _ ?side1 ?side2 A6.out).mono ?_); (case side1 => exact mC (Kd.C_below HR0.out HB.out)); (case side2 => exact HC0.out); rintro e w11 ⟨v235, rfl, ho0, hb⟩; refine ⟨_, rfl, ?_⟩; have n0_ := z0 (Kd.R_lower ho0 (below_size (mB HB.out))); have n1_ := z0 (below_step (mB HB.out) hb); clear HB; have HO236 := n0_; have HB := n1_; clear n0_ n1_; (try clear hb); (try clear hb2); (try clear hk); (try clear hi); (try clear ho0); obtain ⟨Ao12, co12, eo12⟩ := Kd.R_slice HO236.out; subst eo12) | ((with_reducible refine gate_callee (f := 12) rfl ?_); refine goesL_ (some 14) rfl rfl Try.func12 (by kernel_rfl) rfl #[.slice Ao12 t234.length co12] rfl argx ?_; (with_reducible refine (spec_StmtsMany.calls k _ _ t234 t237 _ ?side1 ?side2 A7.out).mono ?_); (case side1 => exact mC (Kd.R_reads' HO236.out).2.2); (case side2 => exact (Kd.R_reads' HO236.out).2.1); rintro e w13 ⟨rfl, hb⟩; refine ⟨_, rfl, ?_⟩; have n0_ := z0 (Kd.R_below (mR HO236.out) hb); have n1_ := z0 (below_step (mB HB.out) hb); clear HO236; clear HB; have HO236 := n0_; have HB := n1_; clear n0_ n1_; (try clear hb); (try clear hb2); (try clear hk); (try clear hi)) | ((with_reducible refine gate_callee (f := 9) rfl ?_); refine goesL_ (some 16) rfl rfl Try.func9 (by kernel_rfl) rfl #[.slice A0 l0.length c0] rfl argx ?_; (with_reducible refine (laws_toStmtS.calls k _ _ l0 t238 _ ?side1 ?side2 A8.out).mono ?_); (case side1 => exact mC (Kd.C_below HR0.out HB.out)); (case side2 => exact HC0.out); rintro e w14 ⟨v239, rfl, ho0, hb⟩; refine ⟨_, rfl, ?_⟩; have n0_ := z0 (Kd.R_elder' (mR HO236.out) (by first | exact Kd.R_base ho0 | exact Kd.R_base ho0) hb); have n1_ := z0 (Kd.R_lower (Kd.R_new' ho0 (Kd.R_lt (mR HO236.out))) (below_size (mB HB.out))); have n2_ := z0 (below_step (mB HB.out) hb); clear HO236; clear HB; have HO236 := n0_; have HO240 := n1_; have HB := n2_; clear n0_ n1_ n2_; (try clear hb); (try clear hb2); (try clear hk); (try clear hi); (try clear ho0); obtain ⟨Ao15, co15, eo15⟩ := Kd.R_slice HO240.out; subst eo15) | ((with_reducible refine gate_callee (f := 13) rfl ?_); refine goesL_ (some 18) rfl rfl Try.func13 (by kernel_rfl) rfl #[.slice Ao15 t238.length co15] rfl argx ?_; (with_reducible refine (impl_StmtsMany.calls _ _ t238 t241 _ ?side1 ?side2 A9.out).mono ?_); (case side1 => exact mC (Kd.R_reads' HO240.out).2.2); (case side2 => exact (Kd.R_reads' HO240.out).2.1); rintro e w16 ⟨rfl, hb⟩; refine ⟨_, rfl, ?_⟩; have n0_ := z0 (Kd.R_below (mR HO236.out) hb); have n1_ := z0 (Kd.R_below (mR HO240.out) hb); have n2_ := z0 (below_step (mB HB.out) hb); clear HO236; clear HO240; clear HB; have HO236 := n0_; have HO240 := n1_; have HB := n2_; clear n0_ n1_ n2_; (try clear hb); (try clear hb2); (try clear hk); (try clear hi)))
  (try simp only [Act.put, List.setIfInBounds_toArray, List.set_cons_zero, List.set_cons_succ])
  have H := HF10.out
  clear HF10
  (try clear c1); (try clear p2); (try clear c4); (try clear c5); (try clear c5b0); (try clear c7); (try clear c9); (try clear c12); (try clear c13)
  by_cases c17 : t241 = t237
  ·rw [if_pos c17] at H
   have c17b0 : (t241 == t237) = true := beq_iff_eq.mpr c17
   have c17b1 : (t241 != t237) = false := bne_eq_false_iff_eq.mpr c17
   clear c17
   (first | rw [c17b0] | (simp only [i64_w, i32_w]; rw [c17b0]) | skip)
   replace H := Option.bind_eq_some_iff.mp H
   obtain ⟨t242, A180, H⟩ := H
   replace H : ((laws_eqStmtS.f k t238 t242).bind fun t245 => (if t245 = true then (some true) else (some false))) = some r := H
   have A18 := z0 A180
   clear A180
   replace H := Option.bind_eq_some_iff.mp H
   obtain ⟨t245, A190, H⟩ := H
   replace H : (if t245 = true then (some true) else (some false)) = some r := H
   have A19 := z0 A190
   clear A190
   have HF20 := z0 H
   clear H
   go_upto_if 26 with (first | ((with_reducible refine gate_callee (f := 9) rfl ?_); refine goesL_ (some 24) rfl rfl Try.func9 (by kernel_rfl) rfl #[.slice A0 l0.length c0] rfl argx ?_; (with_reducible refine (laws_toStmtS.calls k _ _ l0 t242 _ ?side1 ?side2 A18.out).mono ?_); (case side1 => exact mC (Kd.C_below HR0.out HB.out)); (case side2 => exact HC0.out); rintro e w21 ⟨v243, rfl, ho0, hb⟩; refine ⟨_, rfl, ?_⟩; have n0_ := z0 (Kd.R_elder' (mR HO236.out) (by first | exact Kd.R_base ho0 | exact Kd.R_base ho0) hb); have n1_ := z0 (Kd.R_elder' (mR HO240.out) (by first | exact Kd.R_base ho0 | exact Kd.R_base ho0) hb); have n2_ := z0 (Kd.R_lower (Kd.R_new' (Kd.R_new' ho0 (Kd.R_lt (mR HO236.out))) (Kd.R_lt (mR HO240.out))) (below_size (mB HB.out))); have n3_ := z0 (below_step (mB HB.out) hb); clear HO236; clear HO240; clear HB; have HO236 := n0_; have HO240 := n1_; have HO244 := n2_; have HB := n3_; clear n0_ n1_ n2_ n3_; (try clear hb); (try clear hb2); (try clear hk); (try clear hi); (try clear ho0); obtain ⟨Ao22, co22, eo22⟩ := Kd.R_slice HO244.out; subst eo22) | ((with_reducible refine gate_callee (f := 11) rfl ?_); refine goesL_ (some 25) rfl rfl Try.func11 (by kernel_rfl) rfl #[.slice Ao15 t238.length co15, .slice Ao22 t242.length co22] rfl argx ?_; (with_reducible refine (laws_eqStmtS.calls k _ _ t238 _ _ t242 t245 _ ?side1 ?side2 ?side3 ?side4 A19.out).mono ?_); (case side1 => exact mC (Kd.R_reads' HO240.out).2.2); (case side2 => exact (Kd.R_reads' HO240.out).2.1); (case side3 => exact mC (Kd.R_reads' HO244.out).2.2); (case side4 => exact (Kd.R_reads' HO244.out).2.1); rintro e w23 ⟨rfl, hb⟩; refine ⟨_, rfl, ?_⟩; have n0_ := z0 (Kd.R_below (mR HO236.out) hb); have n1_ := z0 (Kd.R_below (mR HO240.out) hb); have n2_ := z0 (Kd.R_below (mR HO244.out) hb); have n3_ := z0 (below_step (mB HB.out) hb); clear HO236; clear HO240; clear HO244; clear HB; have HO236 := n0_; have HO240 := n1_; have HO244 := n2_; have HB := n3_; clear n0_ n1_ n2_ n3_; (try clear hb); (try clear hb2); (try clear hk); (try clear hi)))
   (try simp only [Act.put, List.setIfInBounds_toArray, List.set_cons_zero, List.set_cons_succ])
   have H := HF20.out
   clear HF20
   (try clear c1); (try clear p2); (try clear c4); (try clear c5); (try clear c5b0); (try clear c7); (try clear c9); (try clear c11); (try clear c12); (try clear c13); (try clear c17); (try clear c17b0); (try clear c17b1); (try clear p2)
   by_cases c24 : t245 = true
   ·subst c24
    have H1 : (some true) = some r := by rw [if_pos rfl] at H; exact H
    clear H
    have H := H1
    clear H1
    obtain rfl := Option.some.inj H
    go_wp2
    go_ret
    exact ⟨rfx, mB HB.out⟩
   ·replace c24 := Bool.eq_false_iff.mpr c24
    subst c24
    have H1 : (some false) = some r := by rw [if_neg (show ¬ (false = true) by decide)] at H; exact H
    clear H
    have H := H1
    clear H1
    obtain rfl := Option.some.inj H
    go_wp2
    go_ret
    exact ⟨rfx, mB HB.out⟩
  ·rw [if_neg c17] at H
   have c17b0 : (t241 == t237) = false := beq_eq_false_iff_ne.mpr c17
   have c17b1 : (t241 != t237) = true := bne_iff_ne.mpr c17
   (first | rw [c17b0] | (simp only [i64_w, i32_w]; rw [c17b0]) | skip)
   obtain rfl := Option.some.inj H
   go_wp2
   go_ret
   exact ⟨rfx, mB HB.out⟩

end Go.Proofs.Ytfikglnnkbldaaa.B
