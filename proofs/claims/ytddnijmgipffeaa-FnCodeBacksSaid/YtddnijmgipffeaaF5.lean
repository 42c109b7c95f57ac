-- printed by base.py (this claim's tool) over the kit's print
import Derived.Test.YtddnijmgipffeaaB0
import Derived.Test.YtddnijmgipffeaaSq
import Derived.Test.YtddnijmgipffeaaPkA
import Derived.Test.YtddnijmgipffeaaPkB
import Derived.Test.YtddnijmgipffeaaZCode
import Derived.Test.YtddnijmgipffeaaPkE
namespace Go.Proofs.Ytddnijmgipffeaa.B
open Go.RowKit Go.Proofs.YtddnijmgipffeaaW.PrintWords Go.Proofs.YtddnijmgipffeaaW.PrintLast Go.Proofs.YtddnijmgipffeaaW.PrintMore
attribute [local go_sem] max2_int min2_int max_two min_two max_three min_three max_four min_four   -- for this text's walks alone
set_option linter.unusedVariables false
set_option linter.unusedSimpArgs false

/-! ### laws_FnCodeBacks: function 5 -/
mutual
def laws_FnCodeBacks.j0 : Nat → List (S69) → List (S39) → Bool → Option (Bool)
 | 0, _, _, _ => none
 | k + 1, x3, x4, x24 => if x24 = true then ((spec_CodeOf.f k x3).bind fun t756 => ((impl_CodeSame.f k x4 t756).bind fun t759 => (some t759))) else ((laws_wcMany.f k x3).bind fun bt760 => (laws_FnCodeBacks.l0 k x4 bt760.1 bt760.2 0))
def laws_FnCodeBacks.l0 : Nat → List (S39) → Int → Int → Int → Option (Bool)
 | 0, _, _, _, _ => none
 | k + 1, x4, x5, x6, x7 => if x7 < (x4.length : Int) then (if 0 ≤ x7 then (if ((rd_T39 x4 x7).f0) = 8 then (if ((rd_T39 x4 x7).f1) ≥ x7 then (some false) else (if ((rd_T39 x4 x7).f1) < 0 then (some false) else (laws_FnCodeBacks.l0 k x4 (wrap64 (x5 - 1)) x6 (wrap64 (x7 + 1))))) else (if ((rd_T39 x4 x7).f0) = 7 then (if ((rd_T39 x4 x7).f1) ≤ x7 then (some false) else (if ((rd_T39 x4 x7).f1) > (x4.length : Int) then (some false) else (laws_FnCodeBacks.l0 k x4 x5 (wrap64 (x6 - 1)) (wrap64 (x7 + 1))))) else (if ((rd_T39 x4 x7).f0) = 6 then (if ((rd_T39 x4 x7).f1) ≤ x7 then (some false) else (if ((rd_T39 x4 x7).f1) > (x4.length : Int) then (some false) else (laws_FnCodeBacks.l0 k x4 x5 x6 (wrap64 (x7 + 1))))) else (laws_FnCodeBacks.l0 k x4 x5 x6 (wrap64 (x7 + 1)))))) else (none)) else (if x5 = 0 then (some (x6 == 0)) else (some false))
end
def laws_FnCodeBacks.f (k : Nat) (l0 : List Int) : Option (Bool) := if (l0.length : Int) > 1048576 then (some true) else ((spec_DrawCodeOf.f k l0).bind fun t745 => ((impl_CodeOf.f t745).bind fun t748 => ((spec_CodeOf.f k t745).bind fun t751 => ((impl_CodeSame.f k t748 t751).bind fun t754 => (if t754 = true then ((spec_StmtsOk.f k t745).bind fun t755 => (laws_FnCodeBacks.j0 k t745 t748 (!t755))) else (laws_FnCodeBacks.j0 k t745 t748 true))))))
theorem q5_1 {p : Prop} (h : p := by first | (with_reducible assumption) | assumption) : p := h
set_option maxHeartbeats 8000000 in
set_option maxRecDepth 100000 in
theorem laws_FnCodeBacks.calls (k : Nat) (A0 : Option Addr) (c0 : Nat) (l0 : List Int) (r : Bool) (w : World) (hr0 : Kd.C (Kd.int .u8) w A0 l0.length l0) (hc0 : l0.length ≤ c0) (h : laws_FnCodeBacks.f k l0 = some r) :
  Calls Try.prog 5 #[.slice A0 l0.length c0] w fun e w' => e = .returned (.bool r) ∧ Below w.heap.size w w' := by
 have HR0 := z0 hr0
 have HC0 := z0 hc0
 clear hr0 hc0
 have HB := z0 (Below.refl w.heap.size w)
 have H : (if (l0.length : Int) > 1048576 then (some true) else ((spec_DrawCodeOf.f k l0).bind fun t745 => ((impl_CodeOf.f t745).bind fun t748 => ((spec_CodeOf.f k t745).bind fun t751 => ((impl_CodeSame.f k t748 t751).bind fun t754 => (if t754 = true then ((spec_StmtsOk.f k t745).bind fun t755 => (laws_FnCodeBacks.j0 k t745 t748 (!t755))) else (laws_FnCodeBacks.j0 k t745 t748 true))))))) = some r := h
 clear h
 by_cases c2 : (l0.length : Int) > 1048576
 ·rw [if_pos c2] at H
  have c2b0 : decide (1048576 < (l0.length : Int)) = true := decide_eq_true c2
  have c2b1 : decide (1048576 < l0.length) = true := decide_eq_true (by omega)
  clear c2
  obtain rfl := Option.some.inj H
  go_enter Try.func5, Try.ntmps5
  go_wp2
  go_ret
  exact ⟨rfx, mB HB.out⟩
 ·rw [if_neg c2] at H
  have c2b0 : decide (1048576 < (l0.length : Int)) = false := decide_eq_false c2
  have c2b1 : decide (1048576 < l0.length) = false := decide_eq_false (by omega)
  clear c2
  replace H := Option.bind_eq_some_iff.mp H
  obtain ⟨t745, A30, H⟩ := H
  try dsimp only at H
  have A3 := z0 A30
  clear A30
  replace H := Option.bind_eq_some_iff.mp H
  obtain ⟨t748, A40, H⟩ := H
  try dsimp only at H
  have A4 := z0 A40
  clear A40
  have HC5 := z0 H
  clear H
  go_enter Try.func5, Try.ntmps5
  go_upto_region 5 with (first | ((with_reducible refine gate_callee (f := 17) rfl ?_); refine goesL_ (some 12) rfl rfl Try.func17 (by kernel_rfl) rfl #[.slice A0 l0.length c0] rfl argx ?_; (with_reducible refine (spec_DrawCodeOf.calls k _ _ l0 t745 _ ?side1 ?side2 A3.out).mono ?_); (case side1 => exact mC HR0.out); (case side2 => exact HC0.out); rintro e w6 ⟨v746, rfl, ho0, hb⟩; refine ⟨_, rfl, ?_⟩; have n_ := az (Kd.N_lower (Kd.N_mono (ok' := fun k_ => True) ho0 (fun k_ hk_ => trivial)) (below_size (mB HB.out))) <| z0 (below_step (mB HB.out) hb); clear HB; obtain ⟨HO747, HB⟩ := n_; clear hb ho0; obtain ⟨Ao7, co7, eo7⟩ := Kd.N_slice HO747.out; subst eo7) | ((with_reducible refine gate_callee (f := 11) rfl ?_); refine goesL_ (some 14) rfl rfl Try.func11 (by kernel_rfl) rfl #[.slice Ao7 t745.length co7] rfl argx ?_; (with_reducible refine (impl_CodeOf.calls _ _ t745 t748 _ ?side1 ?side2 A4.out).mono ?_); (case side1 => exact mC (Kd.N_reads' HO747.out).2.2); (case side2 => exact (Kd.N_reads' HO747.out).2.1); rintro e w8 ⟨v749, rfl, ho0, hb⟩; refine ⟨_, rfl, ?_⟩; have n_ := az (Kd.N_elder' (mN HO747.out) (by first | exact Kd.R_base ho0 | exact Kd.R_base ho0) hb) <| az (Kd.R_lower ho0 (below_size (mB HB.out))) <| z0 (below_step (mB HB.out) hb); clear HO747 HB; obtain ⟨HO747, HO750, HB⟩ := n_; clear hb ho0))
  (try simp only [Act.put, List.setIfInBounds_toArray, List.set_cons_zero, List.set_cons_succ])
  go_cut [24] (fun v24 wc => ∃ (kq : Nat) (x24_4 : Bool), v24 = .bool x24_4 ∧ Aside0 (laws_FnCodeBacks.j0 kq t745 t748 x24_4 = some r) ∧ Aside0 (kq ≤ k) ∧ Aside0 (Kd.N k69 69 wc w.heap.size (fun k_ => nB k_ v749) (.slice Ao7 t745.length co7) t745) ∧ Aside0 (Kd.R k39 39 wc w.heap.size (fun _ => True) v749 t748) ∧ Aside0 (Below w.heap.size w wc))
  case first =>
   have H := HC5.out
   clear HC5
   replace H := Option.bind_eq_some_iff.mp H
   obtain ⟨t751, A90, H⟩ := H
   try dsimp only at H
   have A9 := z0 A90
   clear A90
   replace H := Option.bind_eq_some_iff.mp H
   obtain ⟨t754, A100, H⟩ := H
   try dsimp only at H
   have A10 := z0 A100
   clear A100
   by_cases c11 : t754 = true
   ·subst c11
    have H1 : ((spec_StmtsOk.f k t745).bind fun t755 => (laws_FnCodeBacks.j0 k t745 t748 (!t755))) = some r := by rw [if_pos rfl] at H; exact H
    clear H
    have H := H1
    clear H1
    replace H := Option.bind_eq_some_iff.mp H
    obtain ⟨t755, A120, H⟩ := H
    try dsimp only at H
    have A12 := z0 A120
    clear A120
    have H' := z0 H
    clear H
    go_wp2_with (first | ((with_reducible refine gate_callee (f := 9) rfl ?_); refine goesL_ (some 17) rfl rfl Try.func9 (by kernel_rfl) rfl #[.slice Ao7 t745.length co7] rfl argx ?_; (with_reducible refine (spec_CodeOf.calls k _ _ t745 t751 _ ?side1 ?side2 A9.out).mono ?_); (case side1 => exact mC (Kd.N_reads' HO747.out).2.2); (case side2 => exact (Kd.N_reads' HO747.out).2.1); rintro e w13 ⟨v752, rfl, ho0, hb⟩; refine ⟨_, rfl, ?_⟩; have n_ := az (Kd.N_elder' (mN HO747.out) (by first | exact Kd.R_base ho0 | exact Kd.R_base ho0) hb) <| az (Kd.R_elder' (mR HO750.out) (by first | exact Kd.R_base ho0 | exact Kd.R_base ho0) hb) <| az (Kd.R_lower (Kd.R_new' ho0 (Kd.R_lt (mR HO750.out))) (below_size (mB HB.out))) <| z0 (below_step (mB HB.out) hb); clear HO747 HO750 HB; obtain ⟨HO747, HO750, HO753, HB⟩ := n_; clear hb ho0; obtain ⟨Ao14, co14, eo14⟩ := Kd.R_slice HO750.out; subst eo14; obtain ⟨Ao15, co15, eo15⟩ := Kd.R_slice HO753.out; subst eo15) | ((with_reducible refine gate_callee (f := 18) rfl ?_); refine goesL_ (some 18) rfl rfl Try.func18 (by kernel_rfl) rfl #[.slice Ao14 t748.length co14, .slice Ao15 t751.length co15] rfl argx ?_; (with_reducible refine (impl_CodeSame.calls k _ _ t748 _ _ t751 true _ ?side1 ?side2 ?side3 ?side4 A10.out).mono ?_); (case side1 => exact mC (Kd.R_reads' HO750.out).2.2); (case side2 => exact (Kd.R_reads' HO750.out).2.1); (case side3 => exact mC (Kd.R_reads' HO753.out).2.2); (case side4 => exact (Kd.R_reads' HO753.out).2.1); rintro e w' ⟨rfl, ⟨nd, rfl⟩⟩; refine ⟨_, rfl, ?_⟩) | (go_at_call 19; (with_reducible refine (spec_StmtsOk.calls k _ _ t745 t755 _ ?side1 ?side2 A12.out).mono ?_); (case side1 => exact mC (Kd.N_reads' HO747.out).2.2); (case side2 => exact (Kd.N_reads' HO747.out).2.1); rintro e w16 ⟨rfl, hb⟩; have n_ := az (Kd.N_below (mN HO747.out) hb) <| az (Kd.R_below (mR HO750.out) hb) <| az (Kd.R_below (mR HO753.out) hb) <| z0 (below_step (mB HB.out) hb); clear HO747 HO750 HO753 HB; obtain ⟨HO747, HO750, HO753, HB⟩ := n_; clear hb))
    go_meet
    case rel => exact ⟨_, (!t755), rfy, H', ⟨by first | omega | exact Nat.le_refl _⟩, ⟨by (with_reducible repeat (first | apply Kd.N_alloc | apply Kd.N_drewN | apply Kd.N_drew)); exact Kd.N_mono HO747.out (fun _ hk => hk.1.2)⟩, ⟨by (with_reducible repeat (first | apply Kd.R_alloc | apply Kd.R_drewN | apply Kd.R_drew)); exact Kd.R_mono HO750.out (fun _ hk => trivial)⟩, ⟨mB HB.out⟩⟩
   ·replace c11 := Bool.eq_false_iff.mpr c11
    subst c11
    have H1 : (laws_FnCodeBacks.j0 k t745 t748 true) = some r := by rw [if_neg (show ¬ (false = true) by decide)] at H; exact H
    clear H
    have H := H1
    clear H1
    have H' := z0 H
    clear H
    go_wp2_with (first | ((with_reducible refine gate_callee (f := 9) rfl ?_); refine goesL_ (some 17) rfl rfl Try.func9 (by kernel_rfl) rfl #[.slice Ao7 t745.length co7] rfl argx ?_; (with_reducible refine (spec_CodeOf.calls k _ _ t745 t751 _ ?side1 ?side2 A9.out).mono ?_); (case side1 => exact mC (Kd.N_reads' HO747.out).2.2); (case side2 => exact (Kd.N_reads' HO747.out).2.1); rintro e w17 ⟨v752, rfl, ho0, hb⟩; refine ⟨_, rfl, ?_⟩; have n_ := az (Kd.N_elder' (mN HO747.out) (by first | exact Kd.R_base ho0 | exact Kd.R_base ho0) hb) <| az (Kd.R_elder' (mR HO750.out) (by first | exact Kd.R_base ho0 | exact Kd.R_base ho0) hb) <| az (Kd.R_lower (Kd.R_new' ho0 (Kd.R_lt (mR HO750.out))) (below_size (mB HB.out))) <| z0 (below_step (mB HB.out) hb); clear HO747 HO750 HB; obtain ⟨HO747, HO750, HO753, HB⟩ := n_; clear hb ho0; obtain ⟨Ao18, co18, eo18⟩ := Kd.R_slice HO750.out; subst eo18; obtain ⟨Ao19, co19, eo19⟩ := Kd.R_slice HO753.out; subst eo19) | ((with_reducible refine gate_callee (f := 18) rfl ?_); refine goesL_ (some 18) rfl rfl Try.func18 (by kernel_rfl) rfl #[.slice Ao18 t748.length co18, .slice Ao19 t751.length co19] rfl argx ?_; (with_reducible refine (impl_CodeSame.calls k _ _ t748 _ _ t751 false _ ?side1 ?side2 ?side3 ?side4 A10.out).mono ?_); (case side1 => exact mC (Kd.R_reads' HO750.out).2.2); (case side2 => exact (Kd.R_reads' HO750.out).2.1); (case side3 => exact mC (Kd.R_reads' HO753.out).2.2); (case side4 => exact (Kd.R_reads' HO753.out).2.1); rintro e w' ⟨rfl, ⟨nd, rfl⟩⟩; refine ⟨_, rfl, ?_⟩))
    go_meet
    case rel => exact ⟨_, (true), rfy, H', ⟨by first | omega | exact Nat.le_refl _⟩, ⟨by (with_reducible repeat (first | apply Kd.N_alloc | apply Kd.N_drewN | apply Kd.N_drew)); exact Kd.N_mono HO747.out (fun _ hk => hk.1.2)⟩, ⟨by (with_reducible repeat (first | apply Kd.R_alloc | apply Kd.R_drewN | apply Kd.R_drew)); exact Kd.R_mono HO750.out (fun _ hk => trivial)⟩, ⟨mB HB.out⟩⟩
  case rest =>
   clear HC5
   (try clear c2); (try clear c2b0); (try clear c2b1)
   obtain ⟨kq, x24_4, rfl, HA, HJ4, HO_3, HO_4, HB⟩ := hcut
   cases kq with
   | zero => exact absurd HA.out (by simp [laws_FnCodeBacks.j0])
   | succ kj4 =>
    have H := HA.out
    clear HA
    simp only [laws_FnCodeBacks.j0] at H
    by_cases c20 : x24_4 = true
    ·subst c20
     have H1 : ((spec_CodeOf.f kj4 t745).bind fun t756 => ((impl_CodeSame.f kj4 t748 t756).bind fun t759 => (some t759))) = some r := by rw [if_pos rfl] at H; exact H
     clear H
     have H := H1
     clear H1
     replace H := Option.bind_eq_some_iff.mp H
     obtain ⟨t756, A210, H⟩ := H
     try dsimp only at H
     have A21 := z0 A210
     clear A210
     replace H := Option.bind_eq_some_iff.mp H
     obtain ⟨t759, A220, H⟩ := H
     try dsimp only at H
     have A22 := z0 A220
     clear A220
     obtain rfl := Option.some.inj H
     go_wp2_with (first | ((with_reducible refine gate_callee (f := 9) rfl ?_); refine goesL_ (some 27) rfl rfl Try.func9 (by kernel_rfl) rfl #[.slice Ao7 t745.length co7] rfl argx ?_; (with_reducible refine (spec_CodeOf.calls kj4 _ _ t745 t756 _ ?side1 ?side2 A21.out).mono ?_); (case side1 => exact mC (Kd.N_reads' HO_3.out).2.2); (case side2 => exact (Kd.N_reads' HO_3.out).2.1); rintro e w23 ⟨v757, rfl, ho0, hb⟩; refine ⟨_, rfl, ?_⟩; have n_ := az (Kd.N_elder' (mN HO_3.out) (by first | exact Kd.R_base ho0 | exact Kd.R_base ho0) hb) <| az (Kd.R_elder' (mR HO_4.out) (by first | exact Kd.R_base ho0 | exact Kd.R_base ho0) hb) <| az (Kd.R_lower (Kd.R_new' ho0 (Kd.R_lt (mR HO_4.out))) (below_size (mB HB.out))) <| z0 (below_step (mB HB.out) hb); clear HO_3 HO_4 HB; obtain ⟨HO_3, HO_4, HO758, HB⟩ := n_; clear hb ho0; obtain ⟨Ao24, co24, eo24⟩ := Kd.R_slice HO_4.out; subst eo24; obtain ⟨Ao25, co25, eo25⟩ := Kd.R_slice HO758.out; subst eo25) | ((with_reducible refine gate_callee (f := 18) rfl ?_); refine goesL_ (some 28) rfl rfl Try.func18 (by kernel_rfl) rfl #[.slice Ao24 t748.length co24, .slice Ao25 t756.length co25] rfl argx ?_; (with_reducible refine (impl_CodeSame.calls kj4 _ _ t748 _ _ t756 t759 _ ?side1 ?side2 ?side3 ?side4 A22.out).mono ?_); (case side1 => exact mC (Kd.R_reads' HO_4.out).2.2); (case side2 => exact (Kd.R_reads' HO_4.out).2.1); (case side3 => exact mC (Kd.R_reads' HO758.out).2.2); (case side4 => exact (Kd.R_reads' HO758.out).2.1); rintro e w' ⟨rfl, ⟨nd, rfl⟩⟩; refine ⟨_, rfl, ?_⟩))
     go_ret
     exact ⟨rfx, mB HB.out⟩
    ·replace c20 := Bool.eq_false_iff.mpr c20
     subst c20
     have H1 : ((laws_wcMany.f kj4 t745).bind fun bt760 => (laws_FnCodeBacks.l0 kj4 t748 bt760.1 bt760.2 0)) = some r := by rw [if_neg (show ¬ (false = true) by decide)] at H; exact H
     clear H
     have H := H1
     clear H1
     replace H := Option.bind_eq_some_iff.mp H
     obtain ⟨⟨t760, t761⟩, A260, H⟩ := H
     try dsimp only at H
     have A26 := z0 A260
     clear A260
     have H' := z0 H
     clear H
     go_wp2_with (first | ((with_reducible refine gate_callee (f := 20) rfl ?_); refine goesL_ (some 31) rfl rfl Try.func20 (by kernel_rfl) rfl #[.slice Ao7 t745.length co7] rfl argx ?_; (with_reducible refine (laws_wcMany.calls kj4 _ _ t745 t760 t761 _ ?side1 ?side2 A26.out).mono ?_); (case side1 => exact mC (Kd.N_reads' HO_3.out).2.2); (case side2 => exact (Kd.N_reads' HO_3.out).2.1); rintro e w' ⟨rfl, ⟨nd, rfl⟩⟩; refine ⟨_, rfl, ?_⟩))
     go_loopg [5, 6, 7] kj4 (fun kq v5 v6 v7 w' => ∃ (x5_2 : Int) (x6_2 : Int) (x7_2 : Int), v5 = .int .i64 x5_2 ∧ v6 = .int .i64 x6_2 ∧ v7 = .int .i64 x7_2 ∧ Aside0 (laws_FnCodeBacks.l0 kq t748 x5_2 x6_2 x7_2 = some r) ∧ Aside0 (kq ≤ kj4) ∧ Aside0 (Kd.R k39 39 w' w.heap.size (fun _ => True) v749 t748) ∧ Aside0 (Below w.heap.size w w'))
     case atStart => exact ⟨(t760), (t761), (0), rfy, rfy, rfy, H', ⟨Nat.le_refl _⟩, ⟨mR HO_4.out⟩, ⟨mB HB.out⟩⟩
     case round =>
      clear H'
      (try clear c2); (try clear c2b0); (try clear c2b1); (try clear c20)
      obtain ⟨x5_2, x6_2, x7_2, rfl, rfl, rfl, HA, HK2, HO_4, HB⟩ := hrel
      cases gk with
      | zero => exact absurd HA.out (by simp [laws_FnCodeBacks.l0])
      | succ k2 =>
       have H := HA.out
       clear HA
       simp only [laws_FnCodeBacks.l0] at H
       by_cases c27 : x7_2 < (t748.length : Int)
       ·rw [if_pos c27] at H
        have c27b0 : decide (x7_2 < (t748.length : Int)) = true := decide_eq_true c27
        clear c27
        by_cases c28 : 0 ≤ x7_2
        ·rw [if_pos c28] at H
         have c28b0 : decide (0 ≤ x7_2) = true := decide_eq_true c28
         clear c28
         by_cases c29 : ((rd_T39 t748 x7_2).f0) = 8
         ·rw [if_pos c29] at H
          have c29b0 : (((rd_T39 t748 x7_2).f0) == 8) = true := beq_iff_eq.mpr c29
          have c29b1 : (((rd_T39 t748 x7_2).f0) != 8) = false := bne_eq_false_iff_eq.mpr c29
          clear c29
          by_cases c30 : ((rd_T39 t748 x7_2).f1) ≥ x7_2
          ·rw [if_pos c30] at H
           have c30b0 : decide (x7_2 ≤ ((rd_T39 t748 x7_2).f1)) = true := decide_eq_true c30
           clear c30
           obtain rfl := Option.some.inj H
           obtain ⟨Ao31, co31, eo31⟩ := Kd.R_slice HO_4.out
           subst eo31
           have p762 : 0 ≤ (x7_2 : Int) := of_decide_eq_true q5_1
           have q762 : x7_2 < (t748.length : Int) := of_decide_eq_true q5_1
           obtain ⟨ad762, e762, hx762_0, hx762_1, hx762_2, hx762_3⟩ := at_T39 (Kd.R_reads' HO_4.out).2.2 x7_2 p762 q762
           cases e762
           replace p762 := eq_true p762
           replace q762 := eq_true q762
           have p763 : 0 ≤ (x7_2 : Int) := of_decide_eq_true q5_1
           have q763 : x7_2 < (t748.length : Int) := of_decide_eq_true q5_1
           obtain ⟨ad763, e763, hx763_0, hx763_1, hx763_2, hx763_3⟩ := at_T39 (Kd.R_reads' HO_4.out).2.2 x7_2 p763 q763
           obtain rfl : ad762 = ad763 := (by injection e763)
           replace p763 := eq_true p763
           replace q763 := eq_true q763
           go_wp2
           go_ret
           exact ⟨rfx, mB HB.out⟩
          ·rw [if_neg c30] at H
           have c30b0 : decide (x7_2 ≤ ((rd_T39 t748 x7_2).f1)) = false := decide_eq_false c30
           clear c30
           by_cases c32 : ((rd_T39 t748 x7_2).f1) < 0
           ·rw [if_pos c32] at H
            have c32b0 : decide (((rd_T39 t748 x7_2).f1) < 0) = true := decide_eq_true c32
            clear c32
            obtain rfl := Option.some.inj H
            obtain ⟨Ao33, co33, eo33⟩ := Kd.R_slice HO_4.out
            subst eo33
            have p762 : 0 ≤ (x7_2 : Int) := of_decide_eq_true q5_1
            have q762 : x7_2 < (t748.length : Int) := of_decide_eq_true q5_1
            obtain ⟨ad762, e762, hx762_0, hx762_1, hx762_2, hx762_3⟩ := at_T39 (Kd.R_reads' HO_4.out).2.2 x7_2 p762 q762
            cases e762
            replace p762 := eq_true p762
            replace q762 := eq_true q762
            have p763 : 0 ≤ (x7_2 : Int) := of_decide_eq_true q5_1
            have q763 : x7_2 < (t748.length : Int) := of_decide_eq_true q5_1
            obtain ⟨ad763, e763, hx763_0, hx763_1, hx763_2, hx763_3⟩ := at_T39 (Kd.R_reads' HO_4.out).2.2 x7_2 p763 q763
            obtain rfl : ad762 = ad763 := (by injection e763)
            replace p763 := eq_true p763
            replace q763 := eq_true q763
            have p764 : 0 ≤ (x7_2 : Int) := of_decide_eq_true q5_1
            have q764 : x7_2 < (t748.length : Int) := of_decide_eq_true q5_1
            obtain ⟨ad764, e764, hx764_0, hx764_1, hx764_2, hx764_3⟩ := at_T39 (Kd.R_reads' HO_4.out).2.2 x7_2 p764 q764
            obtain rfl : ad762 = ad764 := (by injection e764)
            replace p764 := eq_true p764
            replace q764 := eq_true q764
            go_wp2
            go_ret
            exact ⟨rfx, mB HB.out⟩
           ·rw [if_neg c32] at H
            have c32b0 : decide (((rd_T39 t748 x7_2).f1) < 0) = false := decide_eq_false c32
            clear c32
            have H' := z0 H
            clear H
            obtain ⟨Ao34, co34, eo34⟩ := Kd.R_slice HO_4.out
            subst eo34
            have p762 : 0 ≤ (x7_2 : Int) := of_decide_eq_true q5_1
            have q762 : x7_2 < (t748.length : Int) := of_decide_eq_true q5_1
            obtain ⟨ad762, e762, hx762_0, hx762_1, hx762_2, hx762_3⟩ := at_T39 (Kd.R_reads' HO_4.out).2.2 x7_2 p762 q762
            cases e762
            replace p762 := eq_true p762
            replace q762 := eq_true q762
            have p763 : 0 ≤ (x7_2 : Int) := of_decide_eq_true q5_1
            have q763 : x7_2 < (t748.length : Int) := of_decide_eq_true q5_1
            obtain ⟨ad763, e763, hx763_0, hx763_1, hx763_2, hx763_3⟩ := at_T39 (Kd.R_reads' HO_4.out).2.2 x7_2 p763 q763
            obtain rfl : ad762 = ad763 := (by injection e763)
            replace p763 := eq_true p763
            replace q763 := eq_true q763
            have p764 : 0 ≤ (x7_2 : Int) := of_decide_eq_true q5_1
            have q764 : x7_2 < (t748.length : Int) := of_decide_eq_true q5_1
            obtain ⟨ad764, e764, hx764_0, hx764_1, hx764_2, hx764_3⟩ := at_T39 (Kd.R_reads' HO_4.out).2.2 x7_2 p764 q764
            obtain rfl : ad762 = ad764 := (by injection e764)
            replace p764 := eq_true p764
            replace q764 := eq_true q764
            go_wp2
            go_roundg k2
            case measure => have := HJ4.out; have := HK2.out; omega
            case rel => exact ⟨(wrap64 (x5_2 - 1)), (x6_2), (wrap64 (x7_2 + 1)), rfy, rfy, rfy, H', ⟨by have := HJ4.out; have := HK2.out; omega⟩, ⟨mR HO_4.out⟩, ⟨mB HB.out⟩⟩
         ·rw [if_neg c29] at H
          have c29b0 : (((rd_T39 t748 x7_2).f0) == 8) = false := beq_eq_false_iff_ne.mpr c29
          have c29b1 : (((rd_T39 t748 x7_2).f0) != 8) = true := bne_iff_ne.mpr c29
          by_cases c35 : ((rd_T39 t748 x7_2).f0) = 7
          ·rw [if_pos c35] at H
           have c35b0 : (((rd_T39 t748 x7_2).f0) == 7) = true := beq_iff_eq.mpr c35
           have c35b1 : (((rd_T39 t748 x7_2).f0) != 7) = false := bne_eq_false_iff_eq.mpr c35
           clear c35
           by_cases c36 : ((rd_T39 t748 x7_2).f1) ≤ x7_2
           ·rw [if_pos c36] at H
            have c36b0 : decide (((rd_T39 t748 x7_2).f1) ≤ x7_2) = true := decide_eq_true c36
            clear c36
            obtain rfl := Option.some.inj H
            obtain ⟨Ao37, co37, eo37⟩ := Kd.R_slice HO_4.out
            subst eo37
            have p762 : 0 ≤ (x7_2 : Int) := of_decide_eq_true q5_1
            have q762 : x7_2 < (t748.length : Int) := of_decide_eq_true q5_1
            obtain ⟨ad762, e762, hx762_0, hx762_1, hx762_2, hx762_3⟩ := at_T39 (Kd.R_reads' HO_4.out).2.2 x7_2 p762 q762
            cases e762
            replace p762 := eq_true p762
            replace q762 := eq_true q762
            have p765 : 0 ≤ (x7_2 : Int) := of_decide_eq_true q5_1
            have q765 : x7_2 < (t748.length : Int) := of_decide_eq_true q5_1
            obtain ⟨ad765, e765, hx765_0, hx765_1, hx765_2, hx765_3⟩ := at_T39 (Kd.R_reads' HO_4.out).2.2 x7_2 p765 q765
            obtain rfl : ad762 = ad765 := (by injection e765)
            replace p765 := eq_true p765
            replace q765 := eq_true q765
            go_wp2
            go_ret
            exact ⟨rfx, mB HB.out⟩
           ·rw [if_neg c36] at H
            have c36b0 : decide (((rd_T39 t748 x7_2).f1) ≤ x7_2) = false := decide_eq_false c36
            clear c36
            by_cases c38 : ((rd_T39 t748 x7_2).f1) > (t748.length : Int)
            ·rw [if_pos c38] at H
             have c38b0 : decide ((t748.length : Int) < ((rd_T39 t748 x7_2).f1)) = true := decide_eq_true c38
             clear c38
             obtain rfl := Option.some.inj H
             obtain ⟨Ao39, co39, eo39⟩ := Kd.R_slice HO_4.out
             subst eo39
             have p762 : 0 ≤ (x7_2 : Int) := of_decide_eq_true q5_1
             have q762 : x7_2 < (t748.length : Int) := of_decide_eq_true q5_1
             obtain ⟨ad762, e762, hx762_0, hx762_1, hx762_2, hx762_3⟩ := at_T39 (Kd.R_reads' HO_4.out).2.2 x7_2 p762 q762
             cases e762
             replace p762 := eq_true p762
             replace q762 := eq_true q762
             have p765 : 0 ≤ (x7_2 : Int) := of_decide_eq_true q5_1
             have q765 : x7_2 < (t748.length : Int) := of_decide_eq_true q5_1
             obtain ⟨ad765, e765, hx765_0, hx765_1, hx765_2, hx765_3⟩ := at_T39 (Kd.R_reads' HO_4.out).2.2 x7_2 p765 q765
             obtain rfl : ad762 = ad765 := (by injection e765)
             replace p765 := eq_true p765
             replace q765 := eq_true q765
             have p766 : 0 ≤ (x7_2 : Int) := of_decide_eq_true q5_1
             have q766 : x7_2 < (t748.length : Int) := of_decide_eq_true q5_1
             obtain ⟨ad766, e766, hx766_0, hx766_1, hx766_2, hx766_3⟩ := at_T39 (Kd.R_reads' HO_4.out).2.2 x7_2 p766 q766
             obtain rfl : ad762 = ad766 := (by injection e766)
             replace p766 := eq_true p766
             replace q766 := eq_true q766
             go_wp2
             go_ret
             exact ⟨rfx, mB HB.out⟩
            ·rw [if_neg c38] at H
             have c38b0 : decide ((t748.length : Int) < ((rd_T39 t748 x7_2).f1)) = false := decide_eq_false c38
             clear c38
             have H' := z0 H
             clear H
             obtain ⟨Ao40, co40, eo40⟩ := Kd.R_slice HO_4.out
             subst eo40
             have p762 : 0 ≤ (x7_2 : Int) := of_decide_eq_true q5_1
             have q762 : x7_2 < (t748.length : Int) := of_decide_eq_true q5_1
             obtain ⟨ad762, e762, hx762_0, hx762_1, hx762_2, hx762_3⟩ := at_T39 (Kd.R_reads' HO_4.out).2.2 x7_2 p762 q762
             cases e762
             replace p762 := eq_true p762
             replace q762 := eq_true q762
             have p765 : 0 ≤ (x7_2 : Int) := of_decide_eq_true q5_1
             have q765 : x7_2 < (t748.length : Int) := of_decide_eq_true q5_1
             obtain ⟨ad765, e765, hx765_0, hx765_1, hx765_2, hx765_3⟩ := at_T39 (Kd.R_reads' HO_4.out).2.2 x7_2 p765 q765
             obtain rfl : ad762 = ad765 := (by injection e765)
             replace p765 := eq_true p765
             replace q765 := eq_true q765
             have p766 : 0 ≤ (x7_2 : Int) := of_decide_eq_true q5_1
             have q766 : x7_2 < (t748.length : Int) := of_decide_eq_true q5_1
             obtain ⟨ad766, e766, hx766_0, hx766_1, hx766_2, hx766_3⟩ := at_T39 (Kd.R_reads' HO_4.out).2.2 x7_2 p766 q766
             obtain rfl : ad762 = ad766 := (by injection e766)
             replace p766 := eq_true p766
             replace q766 := eq_true q766
             go_wp2
             go_roundg k2
             case measure => have := HJ4.out; have := HK2.out; omega
             case rel => exact ⟨(x5_2), (wrap64 (x6_2 - 1)), (wrap64 (x7_2 + 1)), rfy, rfy, rfy, H', ⟨by have := HJ4.out; have := HK2.out; omega⟩, ⟨mR HO_4.out⟩, ⟨mB HB.out⟩⟩
          ·rw [if_neg c35] at H
           have c35b0 : (((rd_T39 t748 x7_2).f0) == 7) = false := beq_eq_false_iff_ne.mpr c35
           have c35b1 : (((rd_T39 t748 x7_2).f0) != 7) = true := bne_iff_ne.mpr c35
           by_cases c41 : ((rd_T39 t748 x7_2).f0) = 6
           ·rw [if_pos c41] at H
            have c41b0 : (((rd_T39 t748 x7_2).f0) == 6) = true := beq_iff_eq.mpr c41
            have c41b1 : (((rd_T39 t748 x7_2).f0) != 6) = false := bne_eq_false_iff_eq.mpr c41
            clear c41
            by_cases c42 : ((rd_T39 t748 x7_2).f1) ≤ x7_2
            ·rw [if_pos c42] at H
             have c42b0 : decide (((rd_T39 t748 x7_2).f1) ≤ x7_2) = true := decide_eq_true c42
             clear c42
             obtain rfl := Option.some.inj H
             obtain ⟨Ao43, co43, eo43⟩ := Kd.R_slice HO_4.out
             subst eo43
             have p762 : 0 ≤ (x7_2 : Int) := of_decide_eq_true q5_1
             have q762 : x7_2 < (t748.length : Int) := of_decide_eq_true q5_1
             obtain ⟨ad762, e762, hx762_0, hx762_1, hx762_2, hx762_3⟩ := at_T39 (Kd.R_reads' HO_4.out).2.2 x7_2 p762 q762
             cases e762
             replace p762 := eq_true p762
             replace q762 := eq_true q762
             have p767 : 0 ≤ (x7_2 : Int) := of_decide_eq_true q5_1
             have q767 : x7_2 < (t748.length : Int) := of_decide_eq_true q5_1
             obtain ⟨ad767, e767, hx767_0, hx767_1, hx767_2, hx767_3⟩ := at_T39 (Kd.R_reads' HO_4.out).2.2 x7_2 p767 q767
             obtain rfl : ad762 = ad767 := (by injection e767)
             replace p767 := eq_true p767
             replace q767 := eq_true q767
             go_wp2
             go_ret
             exact ⟨rfx, mB HB.out⟩
            ·rw [if_neg c42] at H
             have c42b0 : decide (((rd_T39 t748 x7_2).f1) ≤ x7_2) = false := decide_eq_false c42
             clear c42
             by_cases c44 : ((rd_T39 t748 x7_2).f1) > (t748.length : Int)
             ·rw [if_pos c44] at H
              have c44b0 : decide ((t748.length : Int) < ((rd_T39 t748 x7_2).f1)) = true := decide_eq_true c44
              clear c44
              obtain rfl := Option.some.inj H
              obtain ⟨Ao45, co45, eo45⟩ := Kd.R_slice HO_4.out
              subst eo45
              have p762 : 0 ≤ (x7_2 : Int) := of_decide_eq_true q5_1
              have q762 : x7_2 < (t748.length : Int) := of_decide_eq_true q5_1
              obtain ⟨ad762, e762, hx762_0, hx762_1, hx762_2, hx762_3⟩ := at_T39 (Kd.R_reads' HO_4.out).2.2 x7_2 p762 q762
              cases e762
              replace p762 := eq_true p762
              replace q762 := eq_true q762
              have p767 : 0 ≤ (x7_2 : Int) := of_decide_eq_true q5_1
              have q767 : x7_2 < (t748.length : Int) := of_decide_eq_true q5_1
              obtain ⟨ad767, e767, hx767_0, hx767_1, hx767_2, hx767_3⟩ := at_T39 (Kd.R_reads' HO_4.out).2.2 x7_2 p767 q767
              obtain rfl : ad762 = ad767 := (by injection e767)
              replace p767 := eq_true p767
              replace q767 := eq_true q767
              have p768 : 0 ≤ (x7_2 : Int) := of_decide_eq_true q5_1
              have q768 : x7_2 < (t748.length : Int) := of_decide_eq_true q5_1
              obtain ⟨ad768, e768, hx768_0, hx768_1, hx768_2, hx768_3⟩ := at_T39 (Kd.R_reads' HO_4.out).2.2 x7_2 p768 q768
              obtain rfl : ad762 = ad768 := (by injection e768)
              replace p768 := eq_true p768
              replace q768 := eq_true q768
              go_wp2
              go_ret
              exact ⟨rfx, mB HB.out⟩
             ·rw [if_neg c44] at H
              have c44b0 : decide ((t748.length : Int) < ((rd_T39 t748 x7_2).f1)) = false := decide_eq_false c44
              clear c44
              have H' := z0 H
              clear H
              obtain ⟨Ao46, co46, eo46⟩ := Kd.R_slice HO_4.out
              subst eo46
              have p762 : 0 ≤ (x7_2 : Int) := of_decide_eq_true q5_1
              have q762 : x7_2 < (t748.length : Int) := of_decide_eq_true q5_1
              obtain ⟨ad762, e762, hx762_0, hx762_1, hx762_2, hx762_3⟩ := at_T39 (Kd.R_reads' HO_4.out).2.2 x7_2 p762 q762
              cases e762
              replace p762 := eq_true p762
              replace q762 := eq_true q762
              have p767 : 0 ≤ (x7_2 : Int) := of_decide_eq_true q5_1
              have q767 : x7_2 < (t748.length : Int) := of_decide_eq_true q5_1
              obtain ⟨ad767, e767, hx767_0, hx767_1, hx767_2, hx767_3⟩ := at_T39 (Kd.R_reads' HO_4.out).2.2 x7_2 p767 q767
              obtain rfl : ad762 = ad767 := (by injection e767)
              replace p767 := eq_true p767
              replace q767 := eq_true q767
              have p768 : 0 ≤ (x7_2 : Int) := of_decide_eq_true q5_1
              have q768 : x7_2 < (t748.length : Int) := of_decide_eq_true q5_1
              obtain ⟨ad768, e768, hx768_0, hx768_1, hx768_2, hx768_3⟩ := at_T39 (Kd.R_reads' HO_4.out).2.2 x7_2 p768 q768
              obtain rfl : ad762 = ad768 := (by injection e768)
              replace p768 := eq_true p768
              replace q768 := eq_true q768
              go_wp2
              go_roundg k2
              case measure => have := HJ4.out; have := HK2.out; omega
              case rel => exact ⟨(x5_2), (x6_2), (wrap64 (x7_2 + 1)), rfy, rfy, rfy, H', ⟨by have := HJ4.out; have := HK2.out; omega⟩, ⟨mR HO_4.out⟩, ⟨mB HB.out⟩⟩
           ·rw [if_neg c41] at H
            have c41b0 : (((rd_T39 t748 x7_2).f0) == 6) = false := beq_eq_false_iff_ne.mpr c41
            have c41b1 : (((rd_T39 t748 x7_2).f0) != 6) = true := bne_iff_ne.mpr c41
            have H' := z0 H
            clear H
            obtain ⟨Ao47, co47, eo47⟩ := Kd.R_slice HO_4.out
            subst eo47
            have p762 : 0 ≤ (x7_2 : Int) := of_decide_eq_true q5_1
            have q762 : x7_2 < (t748.length : Int) := of_decide_eq_true q5_1
            obtain ⟨ad762, e762, hx762_0, hx762_1, hx762_2, hx762_3⟩ := at_T39 (Kd.R_reads' HO_4.out).2.2 x7_2 p762 q762
            cases e762
            replace p762 := eq_true p762
            replace q762 := eq_true q762
            go_wp2
            go_roundg k2
            case measure => have := HJ4.out; have := HK2.out; omega
            case rel => exact ⟨(x5_2), (x6_2), (wrap64 (x7_2 + 1)), rfy, rfy, rfy, H', ⟨by have := HJ4.out; have := HK2.out; omega⟩, ⟨mR HO_4.out⟩, ⟨mB HB.out⟩⟩
        ·rw [if_neg c28] at H
         exact absurd H (by simp)
       ·rw [if_neg c27] at H
        have c27b0 : decide (x7_2 < (t748.length : Int)) = false := decide_eq_false c27
        clear c27
        by_cases c48 : x5_2 = 0
        ·rw [if_pos c48] at H
         have c48b0 : (x5_2 == 0) = true := beq_iff_eq.mpr c48
         have c48b1 : (x5_2 != 0) = false := bne_eq_false_iff_eq.mpr c48
         clear c48
         obtain rfl := Option.some.inj H
         obtain ⟨Ao49, co49, eo49⟩ := Kd.R_slice HO_4.out
         subst eo49
         go_wp2
         go_ret
         exact ⟨rfx, mB HB.out⟩
        ·rw [if_neg c48] at H
         have c48b0 : (x5_2 == 0) = false := beq_eq_false_iff_ne.mpr c48
         have c48b1 : (x5_2 != 0) = true := bne_iff_ne.mpr c48
         obtain rfl := Option.some.inj H
         obtain ⟨Ao50, co50, eo50⟩ := Kd.R_slice HO_4.out
         subst eo50
         go_wp2
         go_ret
         exact ⟨rfx, mB HB.out⟩

/-- THE ONE PURE STATEMENT of laws_FnCodeBacks: yours. -/
def laws_FnCodeBacks.Pure : Prop := ∀ (l0 : List Int), l0.length ≤ maxLen → l0.length * 1 ≤ 140737488351232 → (∀ x ∈ l0, (Lit.int .u8 x).wf = true) → ∃ k, laws_FnCodeBacks.f k l0 = some true
theorem laws_FnCodeBacks.walk (P : laws_FnCodeBacks.Pure) (a0 : Option Addr) (len0 cap0 : Nat) (z0 : List Int) (w : World) (w0 : (a0 = none ∧ len0 = 0 ∧ cap0 = 0 ∧ z0 = []) ∨ ∃ x, a0 = some x ∧ len0 ≤ cap0 ∧ cap0 ≤ maxLen ∧ z0.length = cap0 ∧ (∀ i, i < z0.length → w.cell? (x.add i) = some (.int .u8 (z0.getD i 0))) ∧ ∀ n ∈ z0, (Lit.int .u8 n).wf = true) (y0 : len0 * 1 ≤ 140737488351232) :
  Calls Try.prog 5 #[.slice a0 len0 cap0] w fun e w' => e = .returned (.bool true) ∧ Below w.heap.size w w' := by
 obtain ⟨l0, rfl, hr0, hm0, hw0, hc0⟩ := ReadsInt.ofRowC w0
 obtain ⟨k, h⟩ := P l0 hm0 y0 hw0
 refine (laws_FnCodeBacks.calls k _ _ l0 true w (Kd.C_of_reads (d := (0 : Int)) (h1 := fun _ => rfl) hr0) hc0 h).mono ?_
 rintro e w' ⟨rfl, hd⟩
 exact ⟨rfl, hd⟩

end Go.Proofs.Ytddnijmgipffeaa.B
