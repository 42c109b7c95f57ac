-- printed by base.py (this claim's tool) over the kit's print
import Derived.Test.YtbckpgipehjgmaaGreatB0
import Derived.Test.YtbckpgipehjgmaaGreatSq
import Derived.Test.YtbckpgipehjgmaaGreatPkA
import Derived.Test.YtbckpgipehjgmaaGreatPkC
import Derived.Test.YtbckpgipehjgmaaGreatZStMany
import Derived.Test.YtbckpgipehjgmaaGreatZStOk
import Derived.Test.YtbckpgipehjgmaaGreatZStText
namespace Go.Proofs.YtbckpgipehjgmaaGreat.B
open Go.RowKit Go.Proofs.YtbckpgipehjgmaaGreatW.PrintWords Go.Proofs.YtbckpgipehjgmaaGreatW.PrintLast Go.Proofs.YtbckpgipehjgmaaGreatW.PrintMore
attribute [local go_sem] max2_int min2_int max_two min_two max_three min_three max_four min_four   -- for this text's walks alone
set_option linter.unusedVariables false
set_option linter.unusedSimpArgs false

/-! ### laws_FnStmtsBent: function 3 -/
mutual
def laws_FnStmtsBent.j0 : Nat → List (S33) → Int → Bool → Option (Bool)
 | 0, _, _, _ => none
 | k + 1, x3, x4, x31 => if x31 = true then ((impl_StmtsOk.f x3).bind fun t491 => ((spec_StmtsOk.f k x3).bind fun t492 => (if (t491 == t492) = true then ((spec_StmtsMany.f k x3).bind fun t493 => (some (x4 == t493))) else (some false)))) else ((some (([] : List (S33)) : List (S33))).bind fun y495 => (if y495.length + x3.length < 1099511627776 then ((some (y495 ++ x3 : List (S33))).bind fun y498 => ((some (([(⟨1, (⟨1, 0⟩ : S28), (⟨1, 1, (⟨0, 0⟩ : S28), ([] : List (S31))⟩ : S31), ([] : List (S33)), ([] : List (S33))⟩ : S33)] : List (S33)) : List (S33))).bind fun y501 => (if y498.length + y501.length < 1099511627776 then ((some (([] : List (S33)) : List (S33))).bind fun y507 => (if y507.length + x3.length < 1099511627776 then ((some (y507 ++ x3 : List (S33))).bind fun y510 => ((some (([(⟨3, (⟨0, 0⟩ : S28), (⟨1, 1, (⟨0, 0⟩ : S28), ([] : List (S31))⟩ : S31), ([] : List (S33)), (([(⟨2, (⟨0, 0⟩ : S28), (⟨1, 1, (⟨0, 0⟩ : S28), ([] : List (S31))⟩ : S31), ([] : List (S33)), ([] : List (S33))⟩ : S33)] : List (S33)))⟩ : S33)] : List (S33)) : List (S33))).bind fun y516 => (if y510.length + y516.length < 1099511627776 then ((some (([] : List (S33)) : List (S33))).bind fun y522 => (if y522.length + x3.length < 1099511627776 then (laws_FnStmtsBent.l0 k x3 x4 (y498 ++ y501) (y510 ++ y516) (y522 ++ x3) 1 1 0 0) else (none))) else (none)))) else (none))) else (none)))) else (none)))
def laws_FnStmtsBent.l0 : Nat → List (S33) → Int → List (S33) → List (S33) → List (S33) → Int → Int → Int → Int → Option (Bool)
 | 0, _, _, _, _, _, _, _, _, _ => none
 | k + 1, x3, x4, x6, x7, x8, x495000, x495001, x495002, x495003 => if (x8.length : Int) ≤ 16 then ((some (([(⟨2, (⟨0, 0⟩ : S28), (⟨x495000, x495001, (⟨x495002, x495003⟩ : S28), ([] : List (S31))⟩ : S31), ([] : List (S33)), ([] : List (S33))⟩ : S33)] : List (S33)) : List (S33))).bind fun y528 => (if x8.length + y528.length < 1099511627776 then (laws_FnStmtsBent.l0 k x3 x4 x6 x7 (x8 ++ y528) x495000 x495001 x495002 x495003) else (none))) else ((impl_StmtsOk.f x6).bind fun t534 => (if t534 = true then (some false) else ((impl_StmtsOk.f x7).bind fun t535 => (if t535 = true then (some false) else ((impl_StmtsOk.f x8).bind fun t536 => (if t536 = true then (some false) else ((impl_StmtsText.f x6).bind fun t537 => (if t537.toList = ([] : List UInt8) then (if x4 ≥ (x3.length : Int) then (some (decide (x4 ≤ 16))) else (some false)) else (some false)))))))))
end
def laws_FnStmtsBent.f (k : Nat) (l0 : List Int) : Option (Bool) := if (l0.length : Int) > 1048576 then (some true) else ((spec_DrawStmtsOk.f k l0).bind fun t483 => ((impl_StmtsMany.f t483).bind fun t486 => ((impl_StmtsOk.f t483).bind fun t487 => ((spec_StmtsOk.f k t483).bind fun t488 => (if (t487 != t488) = true then (laws_FnStmtsBent.j0 k t483 t486 true) else ((spec_StmtsMany.f k t483).bind fun t489 => (if t486 = t489 then ((spec_StmtsOk.f k t483).bind fun t490 => (laws_FnStmtsBent.j0 k t483 t486 (!t490))) else (laws_FnStmtsBent.j0 k t483 t486 true))))))))
def laws_FnStmtsBent.T8 : Bool × List (List Nat × List Nat) := (true, [([], []), ([], []), ([0, 1], [0, 1]), ([], []), ([], []), ([3, 4], [3, 4]), ([5], [5]), ([2, 6, 2], [2, 6]), ([7, 7, 0, 1, 2, 3, 4, 5, 6, 7], [7])])
def laws_FnStmtsBent.B8 : List Nat := [0, 0, 3, 0, 0, 24, 56, 127, 255]
theorem laws_FnStmtsBent.tab8 : rtab .any (opsOf Tryz.f3 8) = laws_FnStmtsBent.T8 := by kernel_rfl
theorem laws_FnStmtsBent.bits8 : waitsOk laws_FnStmtsBent.T8.2 laws_FnStmtsBent.B8 = true := by kernel_rfl
def laws_FnStmtsBent.T9 : Bool × List (List Nat × List Nat) := (true, [([], []), ([], []), ([0, 1], [0, 1]), ([], []), ([], []), ([4], [4]), ([5], [5]), ([3, 6], [3, 6]), ([7], [7]), ([2, 8, 2], [2, 8]), ([9, 9, 0, 1, 2, 3, 4, 5, 6, 7, 8, 9], [9])])
def laws_FnStmtsBent.B9 : List Nat := [0, 0, 3, 0, 0, 16, 48, 120, 248, 511, 1023]
theorem laws_FnStmtsBent.tab9 : rtab .any (opsOf Tryz.f3 9) = laws_FnStmtsBent.T9 := by kernel_rfl
theorem laws_FnStmtsBent.bits9 : waitsOk laws_FnStmtsBent.T9.2 laws_FnStmtsBent.B9 = true := by kernel_rfl
theorem q3_1 {p : Prop} (h : p := by exact ⟨(blk_cell BK494.out 0).trans rfl, (blk_cell BK494.out 1).trans rfl, (blk_cell BK494.out 2).trans rfl, (blk_cell BK494.out 3).trans rfl, (blk_cell BK494.out 4).trans rfl⟩) : p := h
theorem q3_2 {p : Prop} (h : p := by first | (simp only [putAll, Act.put, List.setIfInBounds_toArray, List.set_cons_zero, List.set_cons_succ]; done) | (simp only [putAll, Act.put, List.setIfInBounds_toArray, List.set_cons_zero, List.set_cons_succ]; rfl)) : p := h
theorem q3_3 {p : Prop} (h : p := by (with_reducible repeat (first | apply Kd.N_alloc | apply Kd.N_drewN | apply Kd.N_drew)); exact Kd.N_mono HO_3.out (fun _ hk => ⟨hk.1.1, ⟨hk.1.2.1, ⟨hk.2, ⟨hk.1.2.2.1, hk.1.2.2.2⟩⟩⟩⟩)) : p := h
theorem q3_4 {p : Prop} (h : p := by (with_reducible repeat (first | apply Kd.N_alloc | apply Kd.N_drewN | apply Kd.N_drew)); exact Kd.N_mono HO506.out (fun _ hk => ⟨hk.2, ⟨hk.1.1, hk.1.2⟩⟩)) : p := h
theorem q3_5 {p : Prop} (h : p := by (with_reducible repeat (first | apply Kd.N_alloc | apply Kd.N_drewN | apply Kd.N_drew)); exact Kd.N_mono HO506.out (fun _ hk => ⟨hk.2, hk.1⟩)) : p := h
theorem q3_6 {p : Prop} (h : p := by (with_reducible repeat (first | apply Kd.N_alloc | apply Kd.N_drewN | apply Kd.N_drew)); exact Kd.N_mono HO503.out (fun _ hk => ⟨⟨hk.2.2.2.1, ⟨hk.1, ⟨hk.2.2.1, hk.2.2.2.2⟩⟩⟩, hk.2.1⟩)) : p := h
theorem q3_7 {p : Prop} (h : p := by (with_reducible repeat (first | apply Kd.N_alloc | apply Kd.N_drewN | apply Kd.N_drew)); exact Kd.N_mono HO_3.out (fun _ hk => ⟨⟨hk.1, ⟨hk.2.1, ⟨hk.2.2.2.1, hk.2.2.2.2⟩⟩⟩, hk.2.2.1⟩)) : p := h
set_option maxHeartbeats 8000000 in
set_option maxRecDepth 100000 in
theorem laws_FnStmtsBent.calls (k : Nat) (A0 : Option Addr) (c0 : Nat) (l0 : List Int) (r : Bool) (w : World) (hr0 : Kd.C (Kd.int .u8) w A0 l0.length l0) (hc0 : l0.length ≤ c0) (h : laws_FnStmtsBent.f k l0 = some r) :
  Calls Tryz.prog 3 #[.slice A0 l0.length c0] w fun e w' => e = .returned (.bool r) ∧ Below w.heap.size w w' := by
 have hu31 := Tryz.underlying31
 have hu28 := Tryz.underlying28
 have hu33 := Tryz.underlying33
 have HR0 := z0 hr0
 have HC0 := z0 hc0
 clear hr0 hc0
 have HB := z0 (Below.refl w.heap.size w)
 have H : (if (l0.length : Int) > 1048576 then (some true) else ((spec_DrawStmtsOk.f k l0).bind fun t483 => ((impl_StmtsMany.f t483).bind fun t486 => ((impl_StmtsOk.f t483).bind fun t487 => ((spec_StmtsOk.f k t483).bind fun t488 => (if (t487 != t488) = true then (laws_FnStmtsBent.j0 k t483 t486 true) else ((spec_StmtsMany.f k t483).bind fun t489 => (if t486 = t489 then ((spec_StmtsOk.f k t483).bind fun t490 => (laws_FnStmtsBent.j0 k t483 t486 (!t490))) else (laws_FnStmtsBent.j0 k t483 t486 true))))))))) = some r := h
 clear h
 by_cases c2 : (l0.length : Int) > 1048576
 ·rw [if_pos c2] at H
  have c2b0 : decide (1048576 < (l0.length : Int)) = true := decide_eq_true c2
  have c2b1 : decide (1048576 < l0.length) = true := decide_eq_true (by omega)
  clear c2
  obtain rfl := Option.some.inj H
  go_enter Tryz.func3, Tryz.ntmps3
  go_wp2
  go_ret
  exact ⟨rfx, mB HB.out⟩
 ·rw [if_neg c2] at H
  have c2b0 : decide (1048576 < (l0.length : Int)) = false := decide_eq_false c2
  have c2b1 : decide (1048576 < l0.length) = false := decide_eq_false (by omega)
  clear c2
  replace H := Option.bind_eq_some_iff.mp H
  obtain ⟨t483, A30, H⟩ := H
  try dsimp only at H
  have A3 := z0 A30
  clear A30
  replace H := Option.bind_eq_some_iff.mp H
  obtain ⟨t486, A40, H⟩ := H
  try dsimp only at H
  have A4 := z0 A40
  clear A40
  have HC5 := z0 H
  clear H
  go_enter Tryz.func3, Tryz.ntmps3
  go_upto_region 5 with (first | ((with_reducible refine gate_callee (f := 4) rfl ?_); refine goesL_ (some 13) rfl rfl Tryz.func4 (by kernel_rfl) rfl #[.slice A0 l0.length c0] rfl argx ?_; (with_reducible refine (spec_DrawStmtsOk.calls k _ _ l0 t483 _ ?side1 ?side2 A3.out).mono ?_); (case side1 => exact mC HR0.out); (case side2 => exact HC0.out); rintro e w6 ⟨v484, rfl, ho0, hb⟩; refine ⟨_, rfl, ?_⟩; have n_ := az (Kd.N_lower (Kd.N_mono (ok' := fun k_ => True) ho0 (fun k_ hk_ => trivial)) (below_size (mB HB.out))) <| z0 (below_step (mB HB.out) hb); clear HB; obtain ⟨HO485, HB⟩ := n_; clear hb ho0; obtain ⟨Ao7, co7, eo7⟩ := Kd.N_slice HO485.out; subst eo7) | ((with_reducible refine gate_callee (f := 5) rfl ?_); refine goesL_ (some 15) rfl rfl Tryz.func5 (by kernel_rfl) rfl #[.slice Ao7 t483.length co7] rfl argx ?_; (with_reducible refine (impl_StmtsMany.calls _ _ t483 t486 _ ?side1 ?side2 A4.out).mono ?_); (case side1 => exact mC (Kd.N_reads' HO485.out).2.2); (case side2 => exact (Kd.N_reads' HO485.out).2.1); rintro e w8 ⟨rfl, hb⟩; refine ⟨_, rfl, ?_⟩; have n_ := az (Kd.N_below (mN HO485.out) hb) <| z0 (below_step (mB HB.out) hb); clear HO485 HB; obtain ⟨HO485, HB⟩ := n_; clear hb))
  (try simp only [Act.put, List.setIfInBounds_toArray, List.set_cons_zero, List.set_cons_succ])
  go_cut [31] (fun v31 wc => ∃ (kq : Nat) (x31_4 : Bool), v31 = .bool x31_4 ∧ Aside0 (laws_FnStmtsBent.j0 kq t483 t486 x31_4 = some r) ∧ Aside0 (kq ≤ k) ∧ Aside0 (Kd.N k33 33 wc w.heap.size (fun _ => True) (.slice Ao7 t483.length co7) t483) ∧ Aside0 (Below w.heap.size w wc))
  case first =>
   have H := HC5.out
   clear HC5
   replace H := Option.bind_eq_some_iff.mp H
   obtain ⟨t487, A90, H⟩ := H
   try dsimp only at H
   have A9 := z0 A90
   clear A90
   replace H := Option.bind_eq_some_iff.mp H
   obtain ⟨t488, A100, H⟩ := H
   try dsimp only at H
   have A10 := z0 A100
   clear A100
   by_cases c11 : (t487 != t488) = true
   ·rw [if_pos c11] at H
    have c11b0 : (t487 != t488) = true := c11
    (try (have c11b1 : decide (t487 = t488) = false := by simpa using c11))
    (try (have c11b2 : (t487 == t488) = false := by simpa using c11))
    (try (have c11b3 : ¬ (t487 = t488) := by simpa using c11))
    clear c11
    (first | rw [c11b0] | (simp only [i64_w, i32_w]; rw [c11b0]) | skip)
    have H' := z0 H
    clear H
    go_wp2_with (first | ((with_reducible refine gate_callee (f := 6) rfl ?_); refine goesL_ (some 17) rfl rfl Tryz.func6 (by kernel_rfl) rfl #[.slice Ao7 t483.length co7] rfl argx ?_; (with_reducible refine (impl_StmtsOk.calls _ _ t483 t487 _ ?side1 ?side2 A9.out).mono ?_); (case side1 => exact mC (Kd.N_reads' HO485.out).2.2); (case side2 => exact (Kd.N_reads' HO485.out).2.1); rintro e w12 ⟨rfl, hb⟩; refine ⟨_, rfl, ?_⟩; have n_ := az (Kd.N_below (mN HO485.out) hb) <| z0 (below_step (mB HB.out) hb); clear HO485 HB; obtain ⟨HO485, HB⟩ := n_; clear hb) | ((with_reducible refine gate_callee (f := 7) rfl ?_); refine goesL_ (some 19) rfl rfl Tryz.func7 (by kernel_rfl) rfl #[.slice Ao7 t483.length co7] rfl argx ?_; (with_reducible refine (spec_StmtsOk.calls k _ _ t483 t488 _ ?side1 ?side2 A10.out).mono ?_); (case side1 => exact mC (Kd.N_reads' HO485.out).2.2); (case side2 => exact (Kd.N_reads' HO485.out).2.1); rintro e w13 ⟨rfl, hb⟩; refine ⟨_, rfl, ?_⟩; have n_ := az (Kd.N_below (mN HO485.out) hb) <| z0 (below_step (mB HB.out) hb); clear HO485 HB; obtain ⟨HO485, HB⟩ := n_; clear hb))
    go_meet
    case rel => exact ⟨_, (true), rfy, H', ⟨by first | omega | exact Nat.le_refl _⟩, ⟨mN HO485.out⟩, ⟨mB HB.out⟩⟩
   ·rw [if_neg c11] at H
    have c11b0 : (t487 != t488) = false := by simpa using c11
    (try (have c11b1 : decide (t487 = t488) = true := by simpa using c11))
    (try (have c11b2 : (t487 == t488) = true := by simpa using c11))
    clear c11
    (first | rw [c11b0] | (simp only [i64_w, i32_w]; rw [c11b0]) | skip)
    replace H := Option.bind_eq_some_iff.mp H
    obtain ⟨t489, A140, H⟩ := H
    try dsimp only at H
    have A14 := z0 A140
    clear A140
    by_cases c15 : t486 = t489
    ·rw [if_pos c15] at H
     have c15b0 : (t486 == t489) = true := beq_iff_eq.mpr c15
     have c15b1 : (t486 != t489) = false := bne_eq_false_iff_eq.mpr c15
     clear c15
     replace H := Option.bind_eq_some_iff.mp H
     obtain ⟨t490, A160, H⟩ := H
     try dsimp only at H
     have A16 := z0 A160
     clear A160
     have H' := z0 H
     clear H
     go_wp2_with (first | ((with_reducible refine gate_callee (f := 6) rfl ?_); refine goesL_ (some 17) rfl rfl Tryz.func6 (by kernel_rfl) rfl #[.slice Ao7 t483.length co7] rfl argx ?_; (with_reducible refine (impl_StmtsOk.calls _ _ t483 t487 _ ?side1 ?side2 A9.out).mono ?_); (case side1 => exact mC (Kd.N_reads' HO485.out).2.2); (case side2 => exact (Kd.N_reads' HO485.out).2.1); rintro e w17 ⟨rfl, hb⟩; refine ⟨_, rfl, ?_⟩; have n_ := az (Kd.N_below (mN HO485.out) hb) <| z0 (below_step (mB HB.out) hb); clear HO485 HB; obtain ⟨HO485, HB⟩ := n_; clear hb) | ((with_reducible refine gate_callee (f := 7) rfl ?_); refine goesL_ (some 19) rfl rfl Tryz.func7 (by kernel_rfl) rfl #[.slice Ao7 t483.length co7] rfl argx ?_; (with_reducible refine (spec_StmtsOk.calls k _ _ t483 t488 _ ?side1 ?side2 A10.out).mono ?_); (case side1 => exact mC (Kd.N_reads' HO485.out).2.2); (case side2 => exact (Kd.N_reads' HO485.out).2.1); rintro e w18 ⟨rfl, hb⟩; refine ⟨_, rfl, ?_⟩; have n_ := az (Kd.N_below (mN HO485.out) hb) <| z0 (below_step (mB HB.out) hb); clear HO485 HB; obtain ⟨HO485, HB⟩ := n_; clear hb) | (go_at_call 8; (with_reducible refine (spec_StmtsMany.calls k _ _ t483 t489 _ ?side1 ?side2 A14.out).mono ?_); (case side1 => exact mC (Kd.N_reads' HO485.out).2.2); (case side2 => exact (Kd.N_reads' HO485.out).2.1); rintro e w19 ⟨rfl, hb⟩; have n_ := az (Kd.N_below (mN HO485.out) hb) <| z0 (below_step (mB HB.out) hb); clear HO485 HB; obtain ⟨HO485, HB⟩ := n_; clear hb) | (go_at_call 7; (with_reducible refine (spec_StmtsOk.calls k _ _ t483 t490 _ ?side1 ?side2 A16.out).mono ?_); (case side1 => exact mC (Kd.N_reads' HO485.out).2.2); (case side2 => exact (Kd.N_reads' HO485.out).2.1); rintro e w20 ⟨rfl, hb⟩; have n_ := az (Kd.N_below (mN HO485.out) hb) <| z0 (below_step (mB HB.out) hb); clear HO485 HB; obtain ⟨HO485, HB⟩ := n_; clear hb))
     go_meet
     case rel => exact ⟨_, (!t490), rfy, H', ⟨by first | omega | exact Nat.le_refl _⟩, ⟨mN HO485.out⟩, ⟨mB HB.out⟩⟩
    ·rw [if_neg c15] at H
     have c15b0 : (t486 == t489) = false := beq_eq_false_iff_ne.mpr c15
     have c15b1 : (t486 != t489) = true := bne_iff_ne.mpr c15
     have H' := z0 H
     clear H
     go_wp2_with (first | ((with_reducible refine gate_callee (f := 6) rfl ?_); refine goesL_ (some 17) rfl rfl Tryz.func6 (by kernel_rfl) rfl #[.slice Ao7 t483.length co7] rfl argx ?_; (with_reducible refine (impl_StmtsOk.calls _ _ t483 t487 _ ?side1 ?side2 A9.out).mono ?_); (case side1 => exact mC (Kd.N_reads' HO485.out).2.2); (case side2 => exact (Kd.N_reads' HO485.out).2.1); rintro e w21 ⟨rfl, hb⟩; refine ⟨_, rfl, ?_⟩; have n_ := az (Kd.N_below (mN HO485.out) hb) <| z0 (below_step (mB HB.out) hb); clear HO485 HB; obtain ⟨HO485, HB⟩ := n_; clear hb) | ((with_reducible refine gate_callee (f := 7) rfl ?_); refine goesL_ (some 19) rfl rfl Tryz.func7 (by kernel_rfl) rfl #[.slice Ao7 t483.length co7] rfl argx ?_; (with_reducible refine (spec_StmtsOk.calls k _ _ t483 t488 _ ?side1 ?side2 A10.out).mono ?_); (case side1 => exact mC (Kd.N_reads' HO485.out).2.2); (case side2 => exact (Kd.N_reads' HO485.out).2.1); rintro e w22 ⟨rfl, hb⟩; refine ⟨_, rfl, ?_⟩; have n_ := az (Kd.N_below (mN HO485.out) hb) <| z0 (below_step (mB HB.out) hb); clear HO485 HB; obtain ⟨HO485, HB⟩ := n_; clear hb) | (go_at_call 8; (with_reducible refine (spec_StmtsMany.calls k _ _ t483 t489 _ ?side1 ?side2 A14.out).mono ?_); (case side1 => exact mC (Kd.N_reads' HO485.out).2.2); (case side2 => exact (Kd.N_reads' HO485.out).2.1); rintro e w23 ⟨rfl, hb⟩; have n_ := az (Kd.N_below (mN HO485.out) hb) <| z0 (below_step (mB HB.out) hb); clear HO485 HB; obtain ⟨HO485, HB⟩ := n_; clear hb))
     go_meet
     case rel => exact ⟨_, (true), rfy, H', ⟨by first | omega | exact Nat.le_refl _⟩, ⟨mN HO485.out⟩, ⟨mB HB.out⟩⟩
  case rest =>
   clear HC5
   (try clear c2); (try clear c2b0); (try clear c2b1)
   obtain ⟨kq, x31_4, rfl, HA, HJ4, HO_3, HB⟩ := hcut
   cases kq with
   | zero => exact absurd HA.out (by simp [laws_FnStmtsBent.j0])
   | succ kj4 =>
    have H := HA.out
    clear HA
    simp only [laws_FnStmtsBent.j0] at H
    by_cases c24 : x31_4 = true
    ·subst c24
     have H1 : ((impl_StmtsOk.f t483).bind fun t491 => ((spec_StmtsOk.f kj4 t483).bind fun t492 => (if (t491 == t492) = true then ((spec_StmtsMany.f kj4 t483).bind fun t493 => (some (t486 == t493))) else (some false)))) = some r := by rw [if_pos rfl] at H; exact H
     clear H
     have H := H1
     clear H1
     replace H := Option.bind_eq_some_iff.mp H
     obtain ⟨t491, A250, H⟩ := H
     try dsimp only at H
     have A25 := z0 A250
     clear A250
     replace H := Option.bind_eq_some_iff.mp H
     obtain ⟨t492, A260, H⟩ := H
     try dsimp only at H
     have A26 := z0 A260
     clear A260
     by_cases c27 : (t491 == t492) = true
     ·rw [if_pos c27] at H
      have c27b0 : (t491 == t492) = true := c27
      (try (have c27b1 : decide (t491 = t492) = true := by simpa using c27))
      (try (have c27b2 : (t491 == t492) = true := by simpa using c27))
      clear c27
      replace H := Option.bind_eq_some_iff.mp H
      obtain ⟨t493, A280, H⟩ := H
      try dsimp only at H
      have A28 := z0 A280
      clear A280
      obtain rfl := Option.some.inj H
      go_wp2_with (first | ((with_reducible refine gate_callee (f := 6) rfl ?_); refine goesL_ (some 33) rfl rfl Tryz.func6 (by kernel_rfl) rfl #[.slice Ao7 t483.length co7] rfl argx ?_; (with_reducible refine (impl_StmtsOk.calls _ _ t483 t491 _ ?side1 ?side2 A25.out).mono ?_); (case side1 => exact mC (Kd.N_reads' HO_3.out).2.2); (case side2 => exact (Kd.N_reads' HO_3.out).2.1); rintro e w29 ⟨rfl, hb⟩; refine ⟨_, rfl, ?_⟩; have n_ := az (Kd.N_below (mN HO_3.out) hb) <| z0 (below_step (mB HB.out) hb); clear HO_3 HB; obtain ⟨HO_3, HB⟩ := n_; clear hb) | ((with_reducible refine gate_callee (f := 7) rfl ?_); refine goesL_ (some 35) rfl rfl Tryz.func7 (by kernel_rfl) rfl #[.slice Ao7 t483.length co7] rfl argx ?_; (with_reducible refine (spec_StmtsOk.calls kj4 _ _ t483 t492 _ ?side1 ?side2 A26.out).mono ?_); (case side1 => exact mC (Kd.N_reads' HO_3.out).2.2); (case side2 => exact (Kd.N_reads' HO_3.out).2.1); rintro e w30 ⟨rfl, hb⟩; refine ⟨_, rfl, ?_⟩; have n_ := az (Kd.N_below (mN HO_3.out) hb) <| z0 (below_step (mB HB.out) hb); clear HO_3 HB; obtain ⟨HO_3, HB⟩ := n_; clear hb) | (go_at_call 8; (with_reducible refine (spec_StmtsMany.calls kj4 _ _ t483 t493 _ ?side1 ?side2 A28.out).mono ?_); (case side1 => exact mC (Kd.N_reads' HO_3.out).2.2); (case side2 => exact (Kd.N_reads' HO_3.out).2.1); rintro e w31 ⟨rfl, hb⟩; have n_ := az (Kd.N_below (mN HO_3.out) hb) <| z0 (below_step (mB HB.out) hb); clear HO_3 HB; obtain ⟨HO_3, HB⟩ := n_; clear hb))
      go_ret
      exact ⟨rfx, mB HB.out⟩
     ·rw [if_neg c27] at H
      have c27b0 : (t491 == t492) = false := by simpa using c27
      (try (have c27b1 : decide (t491 = t492) = false := by simpa using c27))
      (try (have c27b2 : (t491 == t492) = false := by simpa using c27))
      (try (have c27b3 : ¬ (t491 = t492) := by simpa using c27))
      clear c27
      obtain rfl := Option.some.inj H
      go_wp2_with (first | ((with_reducible refine gate_callee (f := 6) rfl ?_); refine goesL_ (some 33) rfl rfl Tryz.func6 (by kernel_rfl) rfl #[.slice Ao7 t483.length co7] rfl argx ?_; (with_reducible refine (impl_StmtsOk.calls _ _ t483 t491 _ ?side1 ?side2 A25.out).mono ?_); (case side1 => exact mC (Kd.N_reads' HO_3.out).2.2); (case side2 => exact (Kd.N_reads' HO_3.out).2.1); rintro e w32 ⟨rfl, hb⟩; refine ⟨_, rfl, ?_⟩; have n_ := az (Kd.N_below (mN HO_3.out) hb) <| z0 (below_step (mB HB.out) hb); clear HO_3 HB; obtain ⟨HO_3, HB⟩ := n_; clear hb) | ((with_reducible refine gate_callee (f := 7) rfl ?_); refine goesL_ (some 35) rfl rfl Tryz.func7 (by kernel_rfl) rfl #[.slice Ao7 t483.length co7] rfl argx ?_; (with_reducible refine (spec_StmtsOk.calls kj4 _ _ t483 t492 _ ?side1 ?side2 A26.out).mono ?_); (case side1 => exact mC (Kd.N_reads' HO_3.out).2.2); (case side2 => exact (Kd.N_reads' HO_3.out).2.1); rintro e w33 ⟨rfl, hb⟩; refine ⟨_, rfl, ?_⟩; have n_ := az (Kd.N_below (mN HO_3.out) hb) <| z0 (below_step (mB HB.out) hb); clear HO_3 HB; obtain ⟨HO_3, HB⟩ := n_; clear hb))
      go_ret
      exact ⟨rfx, mB HB.out⟩
    ·replace c24 := Bool.eq_false_iff.mpr c24
     subst c24
     have H1 : ((some (([] : List (S33)) : List (S33))).bind fun y495 => (if y495.length + t483.length < 1099511627776 then ((some (y495 ++ t483 : List (S33))).bind fun y498 => ((some (([(⟨1, (⟨1, 0⟩ : S28), (⟨1, 1, (⟨0, 0⟩ : S28), ([] : List (S31))⟩ : S31), ([] : List (S33)), ([] : List (S33))⟩ : S33)] : List (S33)) : List (S33))).bind fun y501 => (if y498.length + y501.length < 1099511627776 then ((some (([] : List (S33)) : List (S33))).bind fun y507 => (if y507.length + t483.length < 1099511627776 then ((some (y507 ++ t483 : List (S33))).bind fun y510 => ((some (([(⟨3, (⟨0, 0⟩ : S28), (⟨1, 1, (⟨0, 0⟩ : S28), ([] : List (S31))⟩ : S31), ([] : List (S33)), (([(⟨2, (⟨0, 0⟩ : S28), (⟨1, 1, (⟨0, 0⟩ : S28), ([] : List (S31))⟩ : S31), ([] : List (S33)), ([] : List (S33))⟩ : S33)] : List (S33)))⟩ : S33)] : List (S33)) : List (S33))).bind fun y516 => (if y510.length + y516.length < 1099511627776 then ((some (([] : List (S33)) : List (S33))).bind fun y522 => (if y522.length + t483.length < 1099511627776 then (laws_FnStmtsBent.l0 kj4 t483 t486 (y498 ++ y501) (y510 ++ y516) (y522 ++ t483) 1 1 0 0) else (none))) else (none)))) else (none))) else (none)))) else (none))) = some r := by rw [if_neg (show ¬ (false = true) by decide)] at H; exact H
     clear H
     have H := H1
     clear H1
     obtain ⟨y495, hy495⟩ : ∃ y_ : List (S33), y_ = (([] : List (S33))) := ⟨_, rfl⟩
     replace H : (if y495.length + t483.length < 1099511627776 then ((some (y495 ++ t483 : List (S33))).bind fun y498 => ((some (([(⟨1, (⟨1, 0⟩ : S28), (⟨1, 1, (⟨0, 0⟩ : S28), ([] : List (S31))⟩ : S31), ([] : List (S33)), ([] : List (S33))⟩ : S33)] : List (S33)) : List (S33))).bind fun y501 => (if y498.length + y501.length < 1099511627776 then ((some (([] : List (S33)) : List (S33))).bind fun y507 => (if y507.length + t483.length < 1099511627776 then ((some (y507 ++ t483 : List (S33))).bind fun y510 => ((some (([(⟨3, (⟨0, 0⟩ : S28), (⟨1, 1, (⟨0, 0⟩ : S28), ([] : List (S31))⟩ : S31), ([] : List (S33)), (([(⟨2, (⟨0, 0⟩ : S28), (⟨1, 1, (⟨0, 0⟩ : S28), ([] : List (S31))⟩ : S31), ([] : List (S33)), ([] : List (S33))⟩ : S33)] : List (S33)))⟩ : S33)] : List (S33)) : List (S33))).bind fun y516 => (if y510.length + y516.length < 1099511627776 then ((some (([] : List (S33)) : List (S33))).bind fun y522 => (if y522.length + t483.length < 1099511627776 then (laws_FnStmtsBent.l0 kj4 t483 t486 (y498 ++ y501) (y510 ++ y516) (y522 ++ t483) 1 1 0 0) else (none))) else (none)))) else (none))) else (none)))) else (none)) = some r := by first | (rw [hy495]; with_reducible exact H) | (have H2_ := (Option.bind_some _ _).symm.trans H; rw [hy495]; with_reducible exact H2_) | (have H2_ := (Option.bind_some _ _).symm.trans H; with_reducible exact H2_) | with_reducible exact H | (rw [hy495]; exact H) | exact H
     have Ny495 := z0 hy495
     clear hy495
     by_cases c34 : y495.length + t483.length < 1099511627776
     ·rw [if_pos c34] at H
      have LMc34 := z0 c34
      clear c34
      obtain ⟨y498, hy498⟩ : ∃ y_ : List (S33), y_ = (y495 ++ t483) := ⟨_, rfl⟩
      replace H : ((some (([(⟨1, (⟨1, 0⟩ : S28), (⟨1, 1, (⟨0, 0⟩ : S28), ([] : List (S31))⟩ : S31), ([] : List (S33)), ([] : List (S33))⟩ : S33)] : List (S33)) : List (S33))).bind fun y501 => (if y498.length + y501.length < 1099511627776 then ((some (([] : List (S33)) : List (S33))).bind fun y507 => (if y507.length + t483.length < 1099511627776 then ((some (y507 ++ t483 : List (S33))).bind fun y510 => ((some (([(⟨3, (⟨0, 0⟩ : S28), (⟨1, 1, (⟨0, 0⟩ : S28), ([] : List (S31))⟩ : S31), ([] : List (S33)), (([(⟨2, (⟨0, 0⟩ : S28), (⟨1, 1, (⟨0, 0⟩ : S28), ([] : List (S31))⟩ : S31), ([] : List (S33)), ([] : List (S33))⟩ : S33)] : List (S33)))⟩ : S33)] : List (S33)) : List (S33))).bind fun y516 => (if y510.length + y516.length < 1099511627776 then ((some (([] : List (S33)) : List (S33))).bind fun y522 => (if y522.length + t483.length < 1099511627776 then (laws_FnStmtsBent.l0 kj4 t483 t486 (y498 ++ y501) (y510 ++ y516) (y522 ++ t483) 1 1 0 0) else (none))) else (none)))) else (none))) else (none))) = some r := by first | (rw [hy498]; with_reducible exact H) | (have H2_ := (Option.bind_some _ _).symm.trans H; rw [hy498]; with_reducible exact H2_) | (have H2_ := (Option.bind_some _ _).symm.trans H; with_reducible exact H2_) | with_reducible exact H | (rw [hy498]; exact H) | exact H
      have Ny498 := z0 hy498
      clear hy498
      obtain ⟨y501, hy501⟩ : ∃ y_ : List (S33), y_ = (([(⟨1, (⟨1, 0⟩ : S28), (⟨1, 1, (⟨0, 0⟩ : S28), ([] : List (S31))⟩ : S31), ([] : List (S33)), ([] : List (S33))⟩ : S33)] : List (S33))) := ⟨_, rfl⟩
      replace H : (if y498.length + y501.length < 1099511627776 then ((some (([] : List (S33)) : List (S33))).bind fun y507 => (if y507.length + t483.length < 1099511627776 then ((some (y507 ++ t483 : List (S33))).bind fun y510 => ((some (([(⟨3, (⟨0, 0⟩ : S28), (⟨1, 1, (⟨0, 0⟩ : S28), ([] : List (S31))⟩ : S31), ([] : List (S33)), (([(⟨2, (⟨0, 0⟩ : S28), (⟨1, 1, (⟨0, 0⟩ : S28), ([] : List (S31))⟩ : S31), ([] : List (S33)), ([] : List (S33))⟩ : S33)] : List (S33)))⟩ : S33)] : List (S33)) : List (S33))).bind fun y516 => (if y510.length + y516.length < 1099511627776 then ((some (([] : List (S33)) : List (S33))).bind fun y522 => (if y522.length + t483.length < 1099511627776 then (laws_FnStmtsBent.l0 kj4 t483 t486 (y498 ++ y501) (y510 ++ y516) (y522 ++ t483) 1 1 0 0) else (none))) else (none)))) else (none))) else (none)) = some r := by first | (rw [hy501]; with_reducible exact H) | (have H2_ := (Option.bind_some _ _).symm.trans H; rw [hy501]; with_reducible exact H2_) | (have H2_ := (Option.bind_some _ _).symm.trans H; with_reducible exact H2_) | with_reducible exact H | (rw [hy501]; exact H) | exact H
      have Ny501 := z0 hy501
      clear hy501
      by_cases c35 : y498.length + y501.length < 1099511627776
      ·rw [if_pos c35] at H
       have LMc35 := z0 c35
       clear c35
       obtain ⟨y504, hy504⟩ : ∃ y_ : List (S33), y_ = (y498 ++ y501) := ⟨_, rfl⟩
       replace H : ((some (([] : List (S33)) : List (S33))).bind fun y507 => (if y507.length + t483.length < 1099511627776 then ((some (y507 ++ t483 : List (S33))).bind fun y510 => ((some (([(⟨3, (⟨0, 0⟩ : S28), (⟨1, 1, (⟨0, 0⟩ : S28), ([] : List (S31))⟩ : S31), ([] : List (S33)), (([(⟨2, (⟨0, 0⟩ : S28), (⟨1, 1, (⟨0, 0⟩ : S28), ([] : List (S31))⟩ : S31), ([] : List (S33)), ([] : List (S33))⟩ : S33)] : List (S33)))⟩ : S33)] : List (S33)) : List (S33))).bind fun y516 => (if y510.length + y516.length < 1099511627776 then ((some (([] : List (S33)) : List (S33))).bind fun y522 => (if y522.length + t483.length < 1099511627776 then (laws_FnStmtsBent.l0 kj4 t483 t486 y504 (y510 ++ y516) (y522 ++ t483) 1 1 0 0) else (none))) else (none)))) else (none))) = some r := by first | (rw [hy504]; with_reducible exact H) | (have H2_ := (Option.bind_some _ _).symm.trans H; rw [hy504]; with_reducible exact H2_) | (have H2_ := (Option.bind_some _ _).symm.trans H; with_reducible exact H2_) | with_reducible exact H | (rw [hy504]; exact H) | exact H
       have Ny504 := z0 hy504
       clear hy504
       obtain ⟨y507, hy507⟩ : ∃ y_ : List (S33), y_ = (([] : List (S33))) := ⟨_, rfl⟩
       replace H : (if y507.length + t483.length < 1099511627776 then ((some (y507 ++ t483 : List (S33))).bind fun y510 => ((some (([(⟨3, (⟨0, 0⟩ : S28), (⟨1, 1, (⟨0, 0⟩ : S28), ([] : List (S31))⟩ : S31), ([] : List (S33)), (([(⟨2, (⟨0, 0⟩ : S28), (⟨1, 1, (⟨0, 0⟩ : S28), ([] : List (S31))⟩ : S31), ([] : List (S33)), ([] : List (S33))⟩ : S33)] : List (S33)))⟩ : S33)] : List (S33)) : List (S33))).bind fun y516 => (if y510.length + y516.length < 1099511627776 then ((some (([] : List (S33)) : List (S33))).bind fun y522 => (if y522.length + t483.length < 1099511627776 then (laws_FnStmtsBent.l0 kj4 t483 t486 y504 (y510 ++ y516) (y522 ++ t483) 1 1 0 0) else (none))) else (none)))) else (none)) = some r := by first | (rw [hy507]; with_reducible exact H) | (have H2_ := (Option.bind_some _ _).symm.trans H; rw [hy507]; with_reducible exact H2_) | (have H2_ := (Option.bind_some _ _).symm.trans H; with_reducible exact H2_) | with_reducible exact H | (rw [hy507]; exact H) | exact H
       have Ny507 := z0 hy507
       clear hy507
       by_cases c36 : y507.length + t483.length < 1099511627776
       ·rw [if_pos c36] at H
        have LMc36 := z0 c36
        clear c36
        obtain ⟨y510, hy510⟩ : ∃ y_ : List (S33), y_ = (y507 ++ t483) := ⟨_, rfl⟩
        replace H : ((some (([(⟨3, (⟨0, 0⟩ : S28), (⟨1, 1, (⟨0, 0⟩ : S28), ([] : List (S31))⟩ : S31), ([] : List (S33)), (([(⟨2, (⟨0, 0⟩ : S28), (⟨1, 1, (⟨0, 0⟩ : S28), ([] : List (S31))⟩ : S31), ([] : List (S33)), ([] : List (S33))⟩ : S33)] : List (S33)))⟩ : S33)] : List (S33)) : List (S33))).bind fun y516 => (if y510.length + y516.length < 1099511627776 then ((some (([] : List (S33)) : List (S33))).bind fun y522 => (if y522.length + t483.length < 1099511627776 then (laws_FnStmtsBent.l0 kj4 t483 t486 y504 (y510 ++ y516) (y522 ++ t483) 1 1 0 0) else (none))) else (none))) = some r := by first | (rw [hy510]; with_reducible exact H) | (have H2_ := (Option.bind_some _ _).symm.trans H; rw [hy510]; with_reducible exact H2_) | (have H2_ := (Option.bind_some _ _).symm.trans H; with_reducible exact H2_) | with_reducible exact H | (rw [hy510]; exact H) | exact H
        have Ny510 := z0 hy510
        clear hy510
        obtain ⟨y513, hy513⟩ : ∃ y_ : List (S33), y_ = (([(⟨2, (⟨0, 0⟩ : S28), (⟨1, 1, (⟨0, 0⟩ : S28), ([] : List (S31))⟩ : S31), ([] : List (S33)), ([] : List (S33))⟩ : S33)] : List (S33))) := ⟨_, rfl⟩
        replace H : ((some (([(⟨3, (⟨0, 0⟩ : S28), (⟨1, 1, (⟨0, 0⟩ : S28), ([] : List (S31))⟩ : S31), ([] : List (S33)), y513⟩ : S33)] : List (S33)) : List (S33))).bind fun y516 => (if y510.length + y516.length < 1099511627776 then ((some (([] : List (S33)) : List (S33))).bind fun y522 => (if y522.length + t483.length < 1099511627776 then (laws_FnStmtsBent.l0 kj4 t483 t486 y504 (y510 ++ y516) (y522 ++ t483) 1 1 0 0) else (none))) else (none))) = some r := by first | (rw [hy513]; with_reducible exact H) | (have H2_ := (Option.bind_some _ _).symm.trans H; rw [hy513]; with_reducible exact H2_) | (have H2_ := (Option.bind_some _ _).symm.trans H; with_reducible exact H2_) | with_reducible exact H | (rw [hy513]; exact H) | exact H
        have Ny513 := z0 hy513
        clear hy513
        obtain ⟨y516, hy516⟩ : ∃ y_ : List (S33), y_ = (([(⟨3, (⟨0, 0⟩ : S28), (⟨1, 1, (⟨0, 0⟩ : S28), ([] : List (S31))⟩ : S31), ([] : List (S33)), y513⟩ : S33)] : List (S33))) := ⟨_, rfl⟩
        replace H : (if y510.length + y516.length < 1099511627776 then ((some (([] : List (S33)) : List (S33))).bind fun y522 => (if y522.length + t483.length < 1099511627776 then (laws_FnStmtsBent.l0 kj4 t483 t486 y504 (y510 ++ y516) (y522 ++ t483) 1 1 0 0) else (none))) else (none)) = some r := by first | (rw [hy516]; with_reducible exact H) | (have H2_ := (Option.bind_some _ _).symm.trans H; rw [hy516]; with_reducible exact H2_) | (have H2_ := (Option.bind_some _ _).symm.trans H; with_reducible exact H2_) | with_reducible exact H | (rw [hy516]; exact H) | exact H
        have Ny516 := z0 hy516
        clear hy516
        by_cases c37 : y510.length + y516.length < 1099511627776
        ·rw [if_pos c37] at H
         have LMc37 := z0 c37
         clear c37
         obtain ⟨y519, hy519⟩ : ∃ y_ : List (S33), y_ = (y510 ++ y516) := ⟨_, rfl⟩
         replace H : ((some (([] : List (S33)) : List (S33))).bind fun y522 => (if y522.length + t483.length < 1099511627776 then (laws_FnStmtsBent.l0 kj4 t483 t486 y504 y519 (y522 ++ t483) 1 1 0 0) else (none))) = some r := by first | (rw [hy519]; with_reducible exact H) | (have H2_ := (Option.bind_some _ _).symm.trans H; rw [hy519]; with_reducible exact H2_) | (have H2_ := (Option.bind_some _ _).symm.trans H; with_reducible exact H2_) | with_reducible exact H | (rw [hy519]; exact H) | exact H
         have Ny519 := z0 hy519
         clear hy519
         obtain ⟨y522, hy522⟩ : ∃ y_ : List (S33), y_ = (([] : List (S33))) := ⟨_, rfl⟩
         replace H : (if y522.length + t483.length < 1099511627776 then (laws_FnStmtsBent.l0 kj4 t483 t486 y504 y519 (y522 ++ t483) 1 1 0 0) else (none)) = some r := by first | (rw [hy522]; with_reducible exact H) | (have H2_ := (Option.bind_some _ _).symm.trans H; rw [hy522]; with_reducible exact H2_) | (have H2_ := (Option.bind_some _ _).symm.trans H; with_reducible exact H2_) | with_reducible exact H | (rw [hy522]; exact H) | exact H
         have Ny522 := z0 hy522
         clear hy522
         by_cases c38 : y522.length + t483.length < 1099511627776
         ·rw [if_pos c38] at H
          have LMc38 := z0 c38
          clear c38
          obtain ⟨y525, hy525⟩ : ∃ y_ : List (S33), y_ = (y522 ++ t483) := ⟨_, rfl⟩
          replace H : (laws_FnStmtsBent.l0 kj4 t483 t486 y504 y519 y525 1 1 0 0) = some r := by first | (rw [hy525]; with_reducible exact H) | (have H2_ := (Option.bind_some _ _).symm.trans H; rw [hy525]; with_reducible exact H2_) | (have H2_ := (Option.bind_some _ _).symm.trans H; with_reducible exact H2_) | with_reducible exact H | (rw [hy525]; exact H) | exact H
          have Ny525 := z0 hy525
          clear hy525
          have H' := z0 H
          clear H
          try go_wp2_with (first | ((with_reducible refine gate_dst (N := 5) rfl ?_); (try (refine gate_guard (by rfl) ?_; dsimp only)); refine box_event ?hg (N := 5) ?hd (cs := #[.int .i64 0, .int .i64 0, .int .i64 0, .int .i64 0, .slice none 0 0]) (t := 31) ?hr ?_; (case hd => rfl); (case hg => rfl); (case hr => first | (go_simp; done) | (go_simp; rfl)); intro gb494 hg w39 hbox hb; have n_ := az (Kd.N_below (Kd.N_elderB (mN HO_3.out) gb494 (Nat.le_of_eq hg.symm)) hb) <| az (below_step (mB HB.out) hb) <| az (hbox) <| az ((by rw [hg]; exact (below_size (mB HB.out)) : w.heap.size ≤ gb494)) <| z0 ((by rw [hg]; exact (below_size (mB HB.out)) : w.heap.size ≤ gb494)); clear HO_3 HB; obtain ⟨HO_3, HB, BK494, GW494, GE494⟩ := n_; clear hb hbox hg; obtain ⟨hcz40_0, hcz40_1, hcz40_2, hcz40_3, hcz40_4, hfz40_0, hfz40_1, hfz40_2, hfz40_3, hfz40_4⟩ := cel5 BK494.out))
          have n0_ : Aside0 (Kd.N k33 33 (((((w39.setCell ⟨gb494, 0, none⟩ (.int .i64 1)).setCell ⟨gb494, 1, none⟩ (.int .i64 1)).setCell ⟨gb494, 2, none⟩ (.int .i64 0)).setCell ⟨gb494, 3, none⟩ (.int .i64 0)).setCell ⟨gb494, 4, none⟩ (.slice none 0 0)) w.heap.size (fun k_ => k_ ≠ gb494) (.slice Ao7 t483.length co7) t483) := ⟨by (with_reducible repeat (first | apply Kd.N_alloc | apply Kd.N_drewN | apply Kd.N_drew)); exact Kd.N_mono (Kd.N_far (p := ⟨gb494, 4, none⟩) (Kd.N_far (p := ⟨gb494, 3, none⟩) (Kd.N_far (p := ⟨gb494, 2, none⟩) (Kd.N_far (p := ⟨gb494, 1, none⟩) (Kd.N_far (p := ⟨gb494, 0, none⟩) (Kd.N_mono HO_3.out (fun k_ hk => (⟨hk, hk.2⟩ : _ ∧ k_ ≠ gb494))) (fun _ hk => hk.2) (.int .i64 1)) (fun _ hk => hk.2) (.int .i64 1)) (fun _ hk => hk.2) (.int .i64 0)) (fun _ hk => hk.2) (.int .i64 0)) (fun _ hk => hk.2) (.slice none 0 0)) (fun _ hk => hk.1.2)⟩
          have n1_ : Aside0 ((((((w39.setCell ⟨gb494, 0, none⟩ (.int .i64 1)).setCell ⟨gb494, 1, none⟩ (.int .i64 1)).setCell ⟨gb494, 2, none⟩ (.int .i64 0)).setCell ⟨gb494, 3, none⟩ (.int .i64 0)).setCell ⟨gb494, 4, none⟩ (.slice none 0 0)).heap[gb494]? = some (.cells #[.int .i64 1, .int .i64 1, .int .i64 0, .int .i64 0, .slice none 0 0] 31 (0, 0))) := ⟨pF BK494.out⟩
          have n2_ : Aside0 (Below w.heap.size w (((((w39.setCell ⟨gb494, 0, none⟩ (.int .i64 1)).setCell ⟨gb494, 1, none⟩ (.int .i64 1)).setCell ⟨gb494, 2, none⟩ (.int .i64 0)).setCell ⟨gb494, 3, none⟩ (.int .i64 0)).setCell ⟨gb494, 4, none⟩ (.slice none 0 0))) := ⟨mB HB.out⟩
          (try clear HO_3)
          (try clear BK494)
          (try clear HB)
          generalize (((((w39.setCell ⟨gb494, 0, none⟩ (.int .i64 1)).setCell ⟨gb494, 1, none⟩ (.int .i64 1)).setCell ⟨gb494, 2, none⟩ (.int .i64 0)).setCell ⟨gb494, 3, none⟩ (.int .i64 0)).setCell ⟨gb494, 4, none⟩ (.slice none 0 0)) = w41 at n0_ n1_ n2_ ⊢
          have HO_3 := n0_
          have BK494 := n1_
          have HB := n2_
          clear n0_ n1_ n2_
          have n_ := az (Kd.N_drew HO_3.out) <| az (blk_drew BK494.out) <| z0 (below_drew1 HB.out)
          clear HO_3 BK494 HB
          obtain ⟨HO_3, BK494, HB⟩ := n_
          refine start_ (n := 9) (S := fun w' => w'.cell? ⟨gb494, 0, none⟩ = some (.int .i64 1) ∧ w'.cell? ⟨gb494, 1, none⟩ = some (.int .i64 1) ∧ w'.cell? ⟨gb494, 2, none⟩ = some (.int .i64 0) ∧ w'.cell? ⟨gb494, 3, none⟩ = some (.int .i64 0) ∧ w'.cell? ⟨gb494, 4, none⟩ = some (.slice none 0 0)) (ds := []) #[false, false, false, false, false, false, false, false, false] (by kernel_rfl) rfl rfl q3_1 (fun hHeld => ?_); refine with_tabW laws_FnStmtsBent.tab8 laws_FnStmtsBent.bits8 (fun HT_ HW_ => ?_)
          generalize w41.drew = w42 at HO_3 BK494 HB hHeld ⊢
          refine pure_ (i := 1) (N := some 45) (v := ?_) (a' := ?_) #[false, true, false, false, false, false, false, false, false] rfl rfl (any_of HT_.out (by kernel_rfl)) (fun _ _ _ h => h) (Or.inl ⟨by rfl, ?_⟩) ?_ ?_
          rotate_left
          ·intro w'
           go_simp
           with_reducible rfl
          rotate_left
          ·simp only [Act.put, List.setIfInBounds_toArray, List.set_cons_zero, List.set_cons_succ, i64_w, i32_w]
           rfl
          refine pure_ (i := 3) (N := some 47) (v := ?_) (a' := ?_) #[false, true, false, true, false, false, false, false, false] rfl rfl (any_of HT_.out (by kernel_rfl)) (fun _ _ _ h => h) (Or.inl ⟨by rfl, ?_⟩) ?_ ?_
          rotate_left
          ·intro w'
           go_simp
           with_reducible rfl
          rotate_left
          ·simp only [Act.put, List.setIfInBounds_toArray, List.set_cons_zero, List.set_cons_succ, i64_w, i32_w]
           rfl
          refine take_ (i := 4) (N := some 48) (v := ?_) (a' := ?_) #[false, true, false, true, true, false, false, false, false] rfl rfl (take_ofW HT_.out HW_.out (by kernel_rfl)) (fun _ _ _ h => h) (Or.inl ⟨by rfl, ?_⟩) hHeld ?_ ?_
          rotate_left
          ·rintro w' ⟨s0, s1, s2, s3, s4⟩
           go_simp
           with_reducible rfl
          rotate_left
          ·simp only [Act.put, List.setIfInBounds_toArray, List.set_cons_zero, List.set_cons_succ, i64_w, i32_w]
           rfl
          refine pure_ (i := 5) (N := some 49) (v := ?_) (a' := ?_) #[false, true, false, true, true, true, false, false, false] rfl rfl (any_of HT_.out (by kernel_rfl)) (fun _ _ _ h => h) (Or.inl ⟨by rfl, ?_⟩) ?_ ?_
          rotate_left
          ·intro w'
           go_simp
           with_reducible rfl
          rotate_left
          ·simp only [Act.put, List.setIfInBounds_toArray, List.set_cons_zero, List.set_cons_succ, i64_w, i32_w]
           rfl
          refine join_ (σ := Value × Value × Value) 2 #[true, true, true, true, true, true, true, false, false] (fun s_ => [(44, s_.1), (46, s_.2.1), (50, s_.2.2)]) (fun s_ w' => (w'.cell? ⟨gb494, 0, none⟩ = some (.int .i64 1) ∧ w'.cell? ⟨gb494, 1, none⟩ = some (.int .i64 1) ∧ w'.cell? ⟨gb494, 2, none⟩ = some (.int .i64 0) ∧ w'.cell? ⟨gb494, 3, none⟩ = some (.int .i64 0) ∧ w'.cell? ⟨gb494, 4, none⟩ = some (.slice none 0 0)) ∧ (Kd.N k33 33 w' w.heap.size (fun k_ => some k_ ≠ (s_.2.2 : Value).ownBlock ∧ k_ ≠ gb494) s_.2.1 y498) ∧ (Kd.N k33 33 w' w.heap.size (fun k_ => some k_ ≠ (s_.2.1 : Value).ownBlock ∧ nB k_ (.slice Ao7 t483.length co7) ∧ k_ ≠ gb494) s_.2.2 y501) ∧ (Kd.N k33 33 w' w.heap.size (fun k_ => some k_ ≠ (s_.2.1 : Value).ownBlock ∧ some k_ ≠ (s_.2.2 : Value).ownBlock ∧ k_ ≠ gb494) (.slice Ao7 t483.length co7) t483) ∧ (w'.heap[gb494]? = some (.cells #[.int .i64 1, .int .i64 1, .int .i64 0, .int .i64 0, .slice none 0 0] 31 (0, 0))) ∧ (Below w.heap.size w w')) ?_ ?_
          rotate_left
          ·intro hCont
           refine two_ (i := 0) (j := 6) (Ni := some 44) (Nj := some 50) #[true, true, false, true, true, true, false, false, false] #[false, true, false, true, true, true, true, false, false] rfl rfl rfl rfl (two_of HT_.out (by kernel_rfl)) (by decide) (by decide) (fun K hK => ?_) (fun K hK => ?_)
           ·skip
            refine Kd.N_lit_step k33 _ 33 ?hg (N' := 44) ?hd (xs := ([] : List (S33))) (inner := []) (ok := (fun k_ => nB k_ (.slice Ao7 t483.length co7) ∧ k_ ≠ gb494)) (okp := (fun k_ => nB k_ (.slice Ao7 t483.length co7) ∧ k_ ≠ gb494)) ?hr ?hp (fun _ hk => hk) ((show ∀ k_, w42.heap.size ≤ k_ → (fun k_ => nB k_ (.slice Ao7 t483.length co7) ∧ k_ ≠ gb494) k_ from fun k_ hk => ⟨Kd.fresh' (Kd.N_lt (mN HO_3.out)) k_ hk, fB BK494.out hk⟩) _ (Nat.le_refl _)) (Below.refl _ _) (Nat.le_refl _) (by simp) ?_; (case hd => rfl); (case hg => rfl); (case hr => first | (go_simp; done) | (go_simp; rfl)); (case hp => exact (Reps.none _ _))
            intro v496 w43 ho44 hb hg_ hnew_
            clear hg_ hnew_
            (first | rw [← Ny495.out] at ho44 | (simp only [Int.reduceToNat] at ho44; rw [← Ny495.out] at ho44))
            have n_ := az (Kd.N_elder' (mN HO_3.out) (by first | exact Kd.N_base ho44 | exact Kd.R_base ho44) hb) <| az (Kd.N_lower ho44 (below_size (mB HB.out))) <| az (bB BK494.out hb) <| z0 (below_step (mB HB.out) hb)
            clear HO_3 BK494 HB
            obtain ⟨HO_3, HO497, BK494, HB⟩ := n_
            clear hb ho44
            refine hK.out _ _ q3_1 (fun hHeld => ?_)
            clear hK K
            refine norm_ (a' := ?_) ?_ ?_
            rotate_left
            ·show Act.put _ (some 44) _ = _
             simp only [Act.put, List.setIfInBounds_toArray, List.set_cons_zero, List.set_cons_succ, i64_w, i32_w]
             rfl
            refine two_ (i := 2) (j := 6) (Ni := some 46) (Nj := some 50) #[true, true, true, true, true, true, false, false, false] #[true, true, false, true, true, true, true, false, false] rfl rfl rfl rfl (two_of HT_.out (by kernel_rfl)) (by decide) (by decide) (fun K hK => ?_) (fun K hK => ?_)
            ·skip
             refine Kd.N_append_rows_step k33 (w0 := w) w.heap.size (by rfl) (.tmp 44) (.tmp 45) 23 33 (.agg #[(.int .i64 0), (.int .i64 0), (.int .i64 0), (.int .i64 0), (.int .i64 0), (.int .i64 0), (.int .i64 0), (.slice none 0 0), (.slice none 0 0), (.slice none 0 0)]) 128 rfl Tryz.underlying23 info33 rfl (by decide) (by omega) v496 y495 t483 _ _ _ (fun k_ => k_ ≠ gb494) (fun k_ => ((fun k_ => k_ ≠ gb494)) k_ ∧ nB k_ v496) rfl rfl ?aO ?aR (fun _ hk => hk) ?aF ?aB ?aS ?aL ?_
             (case aR => exact (by skip; exact Kd.N_F (Kd.N_mono (ok' := (fun k_ => ((fun k_ => k_ ≠ gb494)) k_ ∧ nB k_ v496)) (HO_3.out) (fun k_ hk => ⟨hk.1, hk.2⟩))))
             (case aB => exact (mB HB.out))
             (case aF => exact (fun k_ hk => fB BK494.out hk))
             (case aO => exact (by (with_reducible repeat (first | apply Kd.N_alloc | apply Kd.N_drewN | apply Kd.N_drew)); exact Kd.N_mono HO497.out (fun _ hk => hk.2)))
             (case aS => exact (below_size (mB HB.out)))
             (case aL => have := LMc34.out; omega)
             intro v499 w45 ho hb hg hat
             rw [← Ny498.out] at ho
             have n_ := az (Kd.N_afterv (ok := (fun k_ => k_ ≠ gb494)) (mN HO_3.out) hg hat) <| az (blk_grown (g := gb494) (o := .cells #[.int .i64 1, .int .i64 1, .int .i64 0, .int .i64 0, .slice none 0 0] 31 (0, 0)) (mK BK494.out) hg (Kd.N_ne HO497.out BK494.out (by decide))) <| az (hb) <| z0 (ho)
             clear HO_3 BK494 HB HO497
             obtain ⟨HO_3, BK494, HB, HO500⟩ := n_
             clear ho hb hg hat
             refine hK.out _ _ q3_1 (fun hHeld => ?_)
             clear hK K
             refine norm_ (a' := ?_) ?_ ?_
             rotate_left
             ·show Act.put _ (some 46) _ = _
              simp only [Act.put, List.setIfInBounds_toArray, List.set_cons_zero, List.set_cons_succ, i64_w, i32_w]
              rfl
             refine one_ (i := 6) (N := some 50) #[true, true, true, true, true, true, true, false, false] rfl rfl (one_of HT_.out (by kernel_rfl)) (by decide) (fun K hK => ?_)
             refine Kd.N_lit_step k33 _ 33 ?hg (N' := 50) ?hd (xs := ([(⟨1, (⟨1, 0⟩ : S28), (⟨1, 1, (⟨0, 0⟩ : S28), ([] : List (S31))⟩ : S31), ([] : List (S33)), ([] : List (S33))⟩ : S33)] : List (S33))) (inner := [.int .i64 1, .int .i64 1, .int .i64 0, .int .i64 1, .int .i64 1, .int .i64 0, .int .i64 0, .slice none 0 0, .slice none 0 0, .slice none 0 0]) (ok := (fun k_ => nB k_ (.slice Ao7 t483.length co7) ∧ nB k_ v499 ∧ k_ ≠ gb494)) (okp := (fun k_ => nB k_ (.slice Ao7 t483.length co7) ∧ nB k_ v499 ∧ k_ ≠ gb494)) ?hr ?hp (fun _ hk => hk) ((show ∀ k_, w45.heap.size ≤ k_ → (fun k_ => nB k_ (.slice Ao7 t483.length co7) ∧ nB k_ v499 ∧ k_ ≠ gb494) k_ from fun k_ hk => ⟨Kd.fresh' (Kd.N_lt (mN HO_3.out)) k_ hk, Kd.fresh' (Kd.N_lt (mN HO500.out)) k_ hk, fB BK494.out hk⟩) _ (Nat.le_refl _)) (Below.refl _ _) (Nat.le_refl _) (by simp) ?_; (case hd => rfl); (case hg => rfl); (case hr => first | (go_simp; done) | (go_simp; rfl)); (case hp => exact (Reps.c10 (show Kd.FK k33 _ _ (⟨1, (⟨1, 0⟩ : S28), (⟨1, 1, (⟨0, 0⟩ : S28), ([] : List (S31))⟩ : S31), ([] : List (S33)), ([] : List (S33))⟩ : S33) [.int .i64 1, .int .i64 1, .int .i64 0, .int .i64 1, .int .i64 1, .int .i64 0, .int .i64 0, .slice none 0 0, .slice none 0 0, .slice none 0 0] from (k33_mkF _ _ (⟨1, (⟨1, 0⟩ : S28), (⟨1, 1, (⟨0, 0⟩ : S28), ([] : List (S31))⟩ : S31), ([] : List (S33)), ([] : List (S33))⟩ : S33) (Nat.le_refl _) (Kd.F_nil _ _ _) (Nat.le_refl _) (Kd.F_nil _ _ _) (Nat.le_refl _) (Kd.F_nil _ _ _))) (Reps.none _ _)))
             intro v502 w46 ho47 hb hg_ hnew_
             clear hg_ hnew_
             (first | rw [← Ny501.out] at ho47 | (simp only [Int.reduceToNat] at ho47; rw [← Ny501.out] at ho47))
             have n_ := az (Kd.N_elder' (mN HO_3.out) (by first | exact Kd.N_base ho47 | exact Kd.R_base ho47) hb) <| az (Kd.N_elder' (mN HO500.out) (by first | exact Kd.N_base ho47 | exact Kd.R_base ho47) hb) <| az (Kd.N_lower ho47 (below_size (mB HB.out))) <| az (bB BK494.out hb) <| z0 (below_step (mB HB.out) hb)
             clear HO_3 HO500 BK494 HB
             obtain ⟨HO_3, HO500, HO503, BK494, HB⟩ := n_
             clear hb ho47
             refine hK.out _ _ q3_1 (fun hHeld => ?_)
             clear hK K
             refine norm_ (a' := ?_) ?_ ?_
             rotate_left
             ·show Act.put _ (some 50) _ = _
              simp only [Act.put, List.setIfInBounds_toArray, List.set_cons_zero, List.set_cons_succ, i64_w, i32_w]
              rfl
             exact norm_ (by simp only [putAll, Act.put, List.setIfInBounds_toArray, List.set_cons_zero, List.set_cons_succ]) (hCont (v496, v499, v502) _ ⟨hHeld, (by (with_reducible repeat (first | apply Kd.N_alloc | apply Kd.N_drewN | apply Kd.N_drew)); exact Kd.N_mono HO500.out (fun _ hk => ⟨hk.2, hk.1⟩)), (by (with_reducible repeat (first | apply Kd.N_alloc | apply Kd.N_drewN | apply Kd.N_drew)); exact Kd.N_mono HO503.out (fun _ hk => ⟨hk.2.1, ⟨hk.1, hk.2.2⟩⟩)), (by (with_reducible repeat (first | apply Kd.N_alloc | apply Kd.N_drewN | apply Kd.N_drew)); exact Kd.N_mono HO_3.out (fun _ hk => ⟨hk.1.2, ⟨hk.2, hk.1.1⟩⟩)), (mK BK494.out), (mB HB.out)⟩)
            ·skip
             refine Kd.N_lit_step k33 _ 33 ?hg (N' := 50) ?hd (xs := ([(⟨1, (⟨1, 0⟩ : S28), (⟨1, 1, (⟨0, 0⟩ : S28), ([] : List (S31))⟩ : S31), ([] : List (S33)), ([] : List (S33))⟩ : S33)] : List (S33))) (inner := [.int .i64 1, .int .i64 1, .int .i64 0, .int .i64 1, .int .i64 1, .int .i64 0, .int .i64 0, .slice none 0 0, .slice none 0 0, .slice none 0 0]) (ok := (fun k_ => nB k_ (.slice Ao7 t483.length co7) ∧ nB k_ v496 ∧ k_ ≠ gb494)) (okp := (fun k_ => nB k_ (.slice Ao7 t483.length co7) ∧ nB k_ v496 ∧ k_ ≠ gb494)) ?hr ?hp (fun _ hk => hk) ((show ∀ k_, w43.heap.size ≤ k_ → (fun k_ => nB k_ (.slice Ao7 t483.length co7) ∧ nB k_ v496 ∧ k_ ≠ gb494) k_ from fun k_ hk => ⟨Kd.fresh' (Kd.N_lt (mN HO_3.out)) k_ hk, Kd.fresh' (Kd.N_lt (mN HO497.out)) k_ hk, fB BK494.out hk⟩) _ (Nat.le_refl _)) (Below.refl _ _) (Nat.le_refl _) (by simp) ?_; (case hd => rfl); (case hg => rfl); (case hr => first | (go_simp; done) | (go_simp; rfl)); (case hp => exact (Reps.c10 (show Kd.FK k33 _ _ (⟨1, (⟨1, 0⟩ : S28), (⟨1, 1, (⟨0, 0⟩ : S28), ([] : List (S31))⟩ : S31), ([] : List (S33)), ([] : List (S33))⟩ : S33) [.int .i64 1, .int .i64 1, .int .i64 0, .int .i64 1, .int .i64 1, .int .i64 0, .int .i64 0, .slice none 0 0, .slice none 0 0, .slice none 0 0] from (k33_mkF _ _ (⟨1, (⟨1, 0⟩ : S28), (⟨1, 1, (⟨0, 0⟩ : S28), ([] : List (S31))⟩ : S31), ([] : List (S33)), ([] : List (S33))⟩ : S33) (Nat.le_refl _) (Kd.F_nil _ _ _) (Nat.le_refl _) (Kd.F_nil _ _ _) (Nat.le_refl _) (Kd.F_nil _ _ _))) (Reps.none _ _)))
             intro v502 w45 ho46 hb hg_ hnew_
             clear hg_ hnew_
             (first | rw [← Ny501.out] at ho46 | (simp only [Int.reduceToNat] at ho46; rw [← Ny501.out] at ho46))
             have n_ := az (Kd.N_elder' (mN HO_3.out) (by first | exact Kd.N_base ho46 | exact Kd.R_base ho46) hb) <| az (Kd.N_elder' (mN HO497.out) (by first | exact Kd.N_base ho46 | exact Kd.R_base ho46) hb) <| az (Kd.N_lower ho46 (below_size (mB HB.out))) <| az (bB BK494.out hb) <| z0 (below_step (mB HB.out) hb)
             clear HO_3 HO497 BK494 HB
             obtain ⟨HO_3, HO497, HO503, BK494, HB⟩ := n_
             clear hb ho46
             refine hK.out _ _ q3_1 (fun hHeld => ?_)
             clear hK K
             refine norm_ (a' := ?_) ?_ ?_
             rotate_left
             ·show Act.put _ (some 50) _ = _
              simp only [Act.put, List.setIfInBounds_toArray, List.set_cons_zero, List.set_cons_succ, i64_w, i32_w]
              rfl
             refine one_ (i := 2) (N := some 46) #[true, true, true, true, true, true, true, false, false] rfl rfl (one_of HT_.out (by kernel_rfl)) (by decide) (fun K hK => ?_)
             refine Kd.N_append_rows_step k33 (w0 := w) w.heap.size (by rfl) (.tmp 44) (.tmp 45) 23 33 (.agg #[(.int .i64 0), (.int .i64 0), (.int .i64 0), (.int .i64 0), (.int .i64 0), (.int .i64 0), (.int .i64 0), (.slice none 0 0), (.slice none 0 0), (.slice none 0 0)]) 128 rfl Tryz.underlying23 info33 rfl (by decide) (by omega) v496 y495 t483 _ _ _ (fun k_ => nB k_ v502 ∧ k_ ≠ gb494) (fun k_ => ((fun k_ => nB k_ v502 ∧ k_ ≠ gb494)) k_ ∧ nB k_ v496) rfl rfl ?aO ?aR (fun _ hk => hk) ?aF ?aB ?aS ?aL ?_
             (case aR => exact (by skip; exact Kd.N_F (Kd.N_mono (ok' := (fun k_ => ((fun k_ => nB k_ v502 ∧ k_ ≠ gb494)) k_ ∧ nB k_ v496)) (HO_3.out) (fun k_ hk => ⟨⟨hk.2, hk.1.1⟩, hk.1.2⟩))))
             (case aB => exact (mB HB.out))
             (case aF => exact (fun k_ hk => ⟨Kd.fresh' (Kd.N_lt (mN HO503.out)) k_ hk, fB BK494.out hk⟩))
             (case aO => exact (by (with_reducible repeat (first | apply Kd.N_alloc | apply Kd.N_drewN | apply Kd.N_drew)); exact Kd.N_mono HO497.out (fun _ hk => ⟨hk.2, hk.1.2⟩)))
             (case aS => exact (below_size (mB HB.out)))
             (case aL => have := LMc34.out; omega)
             intro v499 w47 ho hb hg hat
             rw [← Ny498.out] at ho
             have n_ := And.intro (z0 (Kd.N_afterv (ok := (fun k_ => nB k_ v502 ∧ k_ ≠ gb494)) (by (with_reducible repeat (first | apply Kd.N_alloc | apply Kd.N_drewN | apply Kd.N_drew)); exact Kd.N_mono HO_3.out (fun _ hk => ⟨⟨hk.2, hk.1.1⟩, hk.1.2⟩)) hg hat)) <| az (blk_grown (g := gb494) (o := .cells #[.int .i64 1, .int .i64 1, .int .i64 0, .int .i64 0, .slice none 0 0] 31 (0, 0)) (mK BK494.out) hg (Kd.N_ne HO497.out BK494.out (by decide))) <| And.intro (z0 (Kd.N_afterv (ok := (fun k_ => nB k_ (.slice Ao7 t483.length co7) ∧ k_ ≠ gb494)) (by (with_reducible repeat (first | apply Kd.N_alloc | apply Kd.N_drewN | apply Kd.N_drew)); exact Kd.N_mono HO503.out (fun _ hk => ⟨⟨hk.1, hk.2.2⟩, hk.2.1⟩)) hg hat)) <| az (hb) <| z0 (ho)
             clear HO_3 BK494 HO503 HB HO497
             obtain ⟨HO_3, BK494, HO503, HB, HO500⟩ := n_
             clear ho hb hg hat
             refine hK.out _ _ q3_1 (fun hHeld => ?_)
             clear hK K
             refine norm_ (a' := ?_) ?_ ?_
             rotate_left
             ·show Act.put _ (some 46) _ = _
              simp only [Act.put, List.setIfInBounds_toArray, List.set_cons_zero, List.set_cons_succ, i64_w, i32_w]
              rfl
             exact norm_ (by simp only [putAll, Act.put, List.setIfInBounds_toArray, List.set_cons_zero, List.set_cons_succ]) (hCont (v496, v499, v502) _ ⟨hHeld, (mN HO500.out), (by (with_reducible repeat (first | apply Kd.N_alloc | apply Kd.N_drewN | apply Kd.N_drew)); exact Kd.N_mono HO503.out (fun _ hk => ⟨hk.2, ⟨hk.1.1, hk.1.2⟩⟩)), (by (with_reducible repeat (first | apply Kd.N_alloc | apply Kd.N_drewN | apply Kd.N_drew)); exact Kd.N_mono HO_3.out (fun _ hk => ⟨hk.2, ⟨hk.1.1, hk.1.2⟩⟩)), (mK BK494.out), (mB HB.out)⟩)
           ·skip
            refine Kd.N_lit_step k33 _ 33 ?hg (N' := 50) ?hd (xs := ([(⟨1, (⟨1, 0⟩ : S28), (⟨1, 1, (⟨0, 0⟩ : S28), ([] : List (S31))⟩ : S31), ([] : List (S33)), ([] : List (S33))⟩ : S33)] : List (S33))) (inner := [.int .i64 1, .int .i64 1, .int .i64 0, .int .i64 1, .int .i64 1, .int .i64 0, .int .i64 0, .slice none 0 0, .slice none 0 0, .slice none 0 0]) (ok := (fun k_ => nB k_ (.slice Ao7 t483.length co7) ∧ k_ ≠ gb494)) (okp := (fun k_ => nB k_ (.slice Ao7 t483.length co7) ∧ k_ ≠ gb494)) ?hr ?hp (fun _ hk => hk) ((show ∀ k_, w42.heap.size ≤ k_ → (fun k_ => nB k_ (.slice Ao7 t483.length co7) ∧ k_ ≠ gb494) k_ from fun k_ hk => ⟨Kd.fresh' (Kd.N_lt (mN HO_3.out)) k_ hk, fB BK494.out hk⟩) _ (Nat.le_refl _)) (Below.refl _ _) (Nat.le_refl _) (by simp) ?_; (case hd => rfl); (case hg => rfl); (case hr => first | (go_simp; done) | (go_simp; rfl)); (case hp => exact (Reps.c10 (show Kd.FK k33 _ _ (⟨1, (⟨1, 0⟩ : S28), (⟨1, 1, (⟨0, 0⟩ : S28), ([] : List (S31))⟩ : S31), ([] : List (S33)), ([] : List (S33))⟩ : S33) [.int .i64 1, .int .i64 1, .int .i64 0, .int .i64 1, .int .i64 1, .int .i64 0, .int .i64 0, .slice none 0 0, .slice none 0 0, .slice none 0 0] from (k33_mkF _ _ (⟨1, (⟨1, 0⟩ : S28), (⟨1, 1, (⟨0, 0⟩ : S28), ([] : List (S31))⟩ : S31), ([] : List (S33)), ([] : List (S33))⟩ : S33) (Nat.le_refl _) (Kd.F_nil _ _ _) (Nat.le_refl _) (Kd.F_nil _ _ _) (Nat.le_refl _) (Kd.F_nil _ _ _))) (Reps.none _ _)))
            intro v502 w43 ho44 hb hg_ hnew_
            clear hg_ hnew_
            (first | rw [← Ny501.out] at ho44 | (simp only [Int.reduceToNat] at ho44; rw [← Ny501.out] at ho44))
            have n_ := az (Kd.N_elder' (mN HO_3.out) (by first | exact Kd.N_base ho44 | exact Kd.R_base ho44) hb) <| az (Kd.N_lower ho44 (below_size (mB HB.out))) <| az (bB BK494.out hb) <| z0 (below_step (mB HB.out) hb)
            clear HO_3 BK494 HB
            obtain ⟨HO_3, HO503, BK494, HB⟩ := n_
            clear hb ho44
            refine hK.out _ _ q3_1 (fun hHeld => ?_)
            clear hK K
            refine norm_ (a' := ?_) ?_ ?_
            rotate_left
            ·show Act.put _ (some 50) _ = _
             simp only [Act.put, List.setIfInBounds_toArray, List.set_cons_zero, List.set_cons_succ, i64_w, i32_w]
             rfl
            refine one_ (i := 0) (N := some 44) #[true, true, false, true, true, true, true, false, false] rfl rfl (one_of HT_.out (by kernel_rfl)) (by decide) (fun K hK => ?_)
            refine Kd.N_lit_step k33 _ 33 ?hg (N' := 44) ?hd (xs := ([] : List (S33))) (inner := []) (ok := (fun k_ => nB k_ (.slice Ao7 t483.length co7) ∧ nB k_ v502 ∧ k_ ≠ gb494)) (okp := (fun k_ => nB k_ (.slice Ao7 t483.length co7) ∧ nB k_ v502 ∧ k_ ≠ gb494)) ?hr ?hp (fun _ hk => hk) ((show ∀ k_, w43.heap.size ≤ k_ → (fun k_ => nB k_ (.slice Ao7 t483.length co7) ∧ nB k_ v502 ∧ k_ ≠ gb494) k_ from fun k_ hk => ⟨Kd.fresh' (Kd.N_lt (mN HO_3.out)) k_ hk, Kd.fresh' (Kd.N_lt (mN HO503.out)) k_ hk, fB BK494.out hk⟩) _ (Nat.le_refl _)) (Below.refl _ _) (Nat.le_refl _) (by simp) ?_; (case hd => rfl); (case hg => rfl); (case hr => first | (go_simp; done) | (go_simp; rfl)); (case hp => exact (Reps.none _ _))
            intro v496 w45 ho46 hb hg_ hnew_
            clear hg_ hnew_
            (first | rw [← Ny495.out] at ho46 | (simp only [Int.reduceToNat] at ho46; rw [← Ny495.out] at ho46))
            have n_ := az (Kd.N_elder' (mN HO_3.out) (by first | exact Kd.N_base ho46 | exact Kd.R_base ho46) hb) <| az (Kd.N_elder' (mN HO503.out) (by first | exact Kd.N_base ho46 | exact Kd.R_base ho46) hb) <| az (Kd.N_lower ho46 (below_size (mB HB.out))) <| az (bB BK494.out hb) <| z0 (below_step (mB HB.out) hb)
            clear HO_3 HO503 BK494 HB
            obtain ⟨HO_3, HO503, HO497, BK494, HB⟩ := n_
            clear hb ho46
            refine hK.out _ _ q3_1 (fun hHeld => ?_)
            clear hK K
            refine norm_ (a' := ?_) ?_ ?_
            rotate_left
            ·show Act.put _ (some 44) _ = _
             simp only [Act.put, List.setIfInBounds_toArray, List.set_cons_zero, List.set_cons_succ, i64_w, i32_w]
             rfl
            refine one_ (i := 2) (N := some 46) #[true, true, true, true, true, true, true, false, false] rfl rfl (one_of HT_.out (by kernel_rfl)) (by decide) (fun K hK => ?_)
            refine Kd.N_append_rows_step k33 (w0 := w) w.heap.size (by rfl) (.tmp 44) (.tmp 45) 23 33 (.agg #[(.int .i64 0), (.int .i64 0), (.int .i64 0), (.int .i64 0), (.int .i64 0), (.int .i64 0), (.int .i64 0), (.slice none 0 0), (.slice none 0 0), (.slice none 0 0)]) 128 rfl Tryz.underlying23 info33 rfl (by decide) (by omega) v496 y495 t483 _ _ _ (fun k_ => nB k_ v502 ∧ k_ ≠ gb494) (fun k_ => ((fun k_ => nB k_ v502 ∧ k_ ≠ gb494)) k_ ∧ nB k_ v496) rfl rfl ?aO ?aR (fun _ hk => hk) ?aF ?aB ?aS ?aL ?_
            (case aR => exact (by skip; exact Kd.N_F (Kd.N_mono (ok' := (fun k_ => ((fun k_ => nB k_ v502 ∧ k_ ≠ gb494)) k_ ∧ nB k_ v496)) (HO_3.out) (fun k_ hk => ⟨⟨hk.1.2, hk.1.1⟩, hk.2⟩))))
            (case aB => exact (mB HB.out))
            (case aF => exact (fun k_ hk => ⟨Kd.fresh' (Kd.N_lt (mN HO503.out)) k_ hk, fB BK494.out hk⟩))
            (case aO => exact (by (with_reducible repeat (first | apply Kd.N_alloc | apply Kd.N_drewN | apply Kd.N_drew)); exact Kd.N_mono HO497.out (fun _ hk => ⟨hk.2.1, hk.2.2⟩)))
            (case aS => exact (below_size (mB HB.out)))
            (case aL => have := LMc34.out; omega)
            intro v499 w47 ho hb hg hat
            rw [← Ny498.out] at ho
            have n_ := And.intro (z0 (Kd.N_afterv (ok := (fun k_ => nB k_ v502 ∧ k_ ≠ gb494)) (by (with_reducible repeat (first | apply Kd.N_alloc | apply Kd.N_drewN | apply Kd.N_drew)); exact Kd.N_mono HO_3.out (fun _ hk => ⟨⟨hk.1.2, hk.1.1⟩, hk.2⟩)) hg hat)) <| az (blk_grown (g := gb494) (o := .cells #[.int .i64 1, .int .i64 1, .int .i64 0, .int .i64 0, .slice none 0 0] 31 (0, 0)) (mK BK494.out) hg (Kd.N_ne HO497.out BK494.out (by decide))) <| And.intro (z0 (Kd.N_afterv (ok := (fun k_ => nB k_ (.slice Ao7 t483.length co7) ∧ k_ ≠ gb494)) (mN HO503.out) hg hat)) <| az (hb) <| z0 (ho)
            clear HO_3 BK494 HO503 HB HO497
            obtain ⟨HO_3, BK494, HO503, HB, HO500⟩ := n_
            clear ho hb hg hat
            refine hK.out _ _ q3_1 (fun hHeld => ?_)
            clear hK K
            refine norm_ (a' := ?_) ?_ ?_
            rotate_left
            ·show Act.put _ (some 46) _ = _
             simp only [Act.put, List.setIfInBounds_toArray, List.set_cons_zero, List.set_cons_succ, i64_w, i32_w]
             rfl
            exact norm_ (by simp only [putAll, Act.put, List.setIfInBounds_toArray, List.set_cons_zero, List.set_cons_succ]) (hCont (v496, v499, v502) _ ⟨hHeld, (mN HO500.out), (by (with_reducible repeat (first | apply Kd.N_alloc | apply Kd.N_drewN | apply Kd.N_drew)); exact Kd.N_mono HO503.out (fun _ hk => ⟨hk.2, ⟨hk.1.1, hk.1.2⟩⟩)), (by (with_reducible repeat (first | apply Kd.N_alloc | apply Kd.N_drewN | apply Kd.N_drew)); exact Kd.N_mono HO_3.out (fun _ hk => ⟨hk.2, ⟨hk.1.1, hk.1.2⟩⟩)), (mK BK494.out), (mB HB.out)⟩)
          rintro ⟨v496, v499, v502⟩ w48 ⟨hS_, h0_, h1_, h2_, h3_, h4_⟩
          have n0_ : Aside0 (Kd.N k33 33 w48 w.heap.size (fun k_ => nB k_ v502 ∧ k_ ≠ gb494) v499 y498) := ⟨h0_⟩
          have n1_ : Aside0 (Kd.N k33 33 w48 w.heap.size (fun k_ => nB k_ v499 ∧ nB k_ (.slice Ao7 t483.length co7) ∧ k_ ≠ gb494) v502 y501) := ⟨h1_⟩
          have n2_ : Aside0 (Kd.N k33 33 w48 w.heap.size (fun k_ => nB k_ v499 ∧ nB k_ v502 ∧ k_ ≠ gb494) (.slice Ao7 t483.length co7) t483) := ⟨h2_⟩
          have n3_ : Aside0 (w48.heap[gb494]? = some (.cells #[.int .i64 1, .int .i64 1, .int .i64 0, .int .i64 0, .slice none 0 0] 31 (0, 0))) := ⟨h3_⟩
          have n4_ : Aside0 (Below w.heap.size w w48) := ⟨h4_⟩
          clear HO_3 BK494 HB h0_ h1_ h2_ h3_ h4_
          have HO500 := n0_
          have HO503 := n1_
          have HO_3 := n2_
          have BK494 := n3_
          have HB := n4_
          clear n0_ n1_ n2_ n3_ n4_
          have hHeld : w48.cell? ⟨gb494, 0, none⟩ = some (.int .i64 1) ∧ w48.cell? ⟨gb494, 1, none⟩ = some (.int .i64 1) ∧ w48.cell? ⟨gb494, 2, none⟩ = some (.int .i64 0) ∧ w48.cell? ⟨gb494, 3, none⟩ = some (.int .i64 0) ∧ w48.cell? ⟨gb494, 4, none⟩ = some (.slice none 0 0) := hS_
          obtain ⟨Ao50, co50, eo50⟩ := Kd.N_slice HO503.out
          (first | subst eo50 | (injection eo50 with f1_ f2_ f3_; have f4_ := f1_.symm; have f5_ := f3_.symm; clear f1_ f2_ f3_; subst f4_; subst f5_))
          refine norm_ (a' := ?_) ?_ ?_
          rotate_left
          ·simp only [putAll, Act.put, List.setIfInBounds_toArray, List.set_cons_zero, List.set_cons_succ]
           rfl
          refine one_ (i := 7) (N := some 51) #[true, true, true, true, true, true, true, true, false] rfl rfl (one_of HT_.out (by kernel_rfl)) (by decide) (fun K hK => ?_)
          refine Kd.N_append_rows_step k33 (w0 := w) w.heap.size (by rfl) (.tmp 46) (.tmp 50) 23 33 (.agg #[(.int .i64 0), (.int .i64 0), (.int .i64 0), (.int .i64 0), (.int .i64 0), (.int .i64 0), (.int .i64 0), (.slice none 0 0), (.slice none 0 0), (.slice none 0 0)]) 128 rfl Tryz.underlying23 info33 rfl (by decide) (by omega) v499 y498 y501 _ _ _ (fun k_ => k_ ≠ gb494) (fun k_ => ((fun k_ => k_ ≠ gb494)) k_ ∧ nB k_ v499) rfl rfl ?aO ?aR (fun _ hk => hk) ?aF ?aB ?aS ?aL ?_
          (case aR => exact (by skip; exact Kd.N_F (Kd.N_mono (ok' := (fun k_ => ((fun k_ => k_ ≠ gb494)) k_ ∧ nB k_ v499)) (HO503.out) (fun k_ hk => ⟨hk.2.2, hk.1⟩))))
          (case aB => exact (mB HB.out))
          (case aF => exact (fun k_ hk => fB BK494.out hk))
          (case aO => exact (by (with_reducible repeat (first | apply Kd.N_alloc | apply Kd.N_drewN | apply Kd.N_drew)); exact Kd.N_mono HO500.out (fun _ hk => hk.2)))
          (case aS => exact (below_size (mB HB.out)))
          (case aL => have := LMc35.out; omega)
          intro v505 w49 ho hb hg hat
          rw [← Ny504.out] at ho
          have n_ := And.intro (z0 (Kd.N_afterv (ok := (fun k_ => nB k_ (.slice Ao50 y501.length co50) ∧ k_ ≠ gb494)) (by (with_reducible repeat (first | apply Kd.N_alloc | apply Kd.N_drewN | apply Kd.N_drew)); exact Kd.N_mono HO_3.out (fun _ hk => ⟨⟨hk.2.1, hk.2.2⟩, hk.1⟩)) hg hat)) <| az (blk_grown (g := gb494) (o := .cells #[.int .i64 1, .int .i64 1, .int .i64 0, .int .i64 0, .slice none 0 0] 31 (0, 0)) (mK BK494.out) hg (Kd.N_ne HO500.out BK494.out (by decide))) <| And.intro (z0 (Kd.N_afterv (ok := (fun k_ => nB k_ (.slice Ao7 t483.length co7) ∧ k_ ≠ gb494)) (by (with_reducible repeat (first | apply Kd.N_alloc | apply Kd.N_drewN | apply Kd.N_drew)); exact Kd.N_mono HO503.out (fun _ hk => ⟨⟨hk.2.1, hk.2.2⟩, hk.1⟩)) hg hat)) <| az (hb) <| z0 (ho)
          clear HO_3 BK494 HO503 HB HO500
          obtain ⟨HO_3, BK494, HO503, HB, HO506⟩ := n_
          clear ho hb hg hat
          refine hK.out _ _ q3_1 (fun hHeld => ?_)
          clear hK K
          refine norm_ (a' := ?_) ?_ ?_
          rotate_left
          ·show Act.put _ (some 51) _ = _
           simp only [Act.put, List.setIfInBounds_toArray, List.set_cons_zero, List.set_cons_succ, i64_w, i32_w]
           rfl
          refine pure_ (i := 8) (N := some 6) (v := ?_) (a' := ?_) #[true, true, true, true, true, true, true, true, true] rfl rfl (any_of HT_.out (by kernel_rfl)) (fun _ _ _ h => h) (Or.inl ⟨by rfl, ?_⟩) ?_ ?_
          rotate_left
          ·intro w'
           go_simp
           with_reducible rfl
          rotate_left
          ·simp only [Act.put, List.setIfInBounds_toArray, List.set_cons_zero, List.set_cons_succ, i64_w, i32_w]
           rfl
          refine done_ (done_of HT_.out (by kernel_rfl)) ?_
          try go_wp2
          have n_ := az (Kd.N_drew HO_3.out) <| az (Kd.N_drew HO503.out) <| az (Kd.N_drew HO506.out) <| az (blk_drew BK494.out) <| z0 (below_drew1 HB.out)
          clear HO_3 HO503 HO506 BK494 HB
          obtain ⟨HO_3, HO503, HO506, BK494, HB⟩ := n_
          refine start_ (n := 11) (S := fun w' => w'.cell? ⟨gb494, 0, none⟩ = some (.int .i64 1) ∧ w'.cell? ⟨gb494, 1, none⟩ = some (.int .i64 1) ∧ w'.cell? ⟨gb494, 2, none⟩ = some (.int .i64 0) ∧ w'.cell? ⟨gb494, 3, none⟩ = some (.int .i64 0) ∧ w'.cell? ⟨gb494, 4, none⟩ = some (.slice none 0 0)) (ds := []) #[false, false, false, false, false, false, false, false, false, false, false] (by kernel_rfl) rfl rfl q3_1 (fun hHeld => ?_); refine with_tabW laws_FnStmtsBent.tab9 laws_FnStmtsBent.bits9 (fun HT_ HW_ => ?_)
          generalize w49.drew = w51 at HO_3 HO503 HO506 BK494 HB hHeld ⊢
          refine pure_ (i := 1) (N := some 53) (v := ?_) (a' := ?_) #[false, true, false, false, false, false, false, false, false, false, false] rfl rfl (any_of HT_.out (by kernel_rfl)) (fun _ _ _ h => h) (Or.inl ⟨by rfl, ?_⟩) ?_ ?_
          rotate_left
          ·intro w'
           go_simp
           with_reducible rfl
          rotate_left
          ·simp only [Act.put, List.setIfInBounds_toArray, List.set_cons_zero, List.set_cons_succ, i64_w, i32_w]
           rfl
          refine take_ (i := 3) (N := some 55) (v := ?_) (a' := ?_) #[false, true, false, true, false, false, false, false, false, false, false] rfl rfl (take_ofW HT_.out HW_.out (by kernel_rfl)) (fun _ _ _ h => h) (Or.inl ⟨by rfl, ?_⟩) hHeld ?_ ?_
          rotate_left
          ·rintro w' ⟨s0, s1, s2, s3, s4⟩
           go_simp
           with_reducible rfl
          rotate_left
          ·simp only [Act.put, List.setIfInBounds_toArray, List.set_cons_zero, List.set_cons_succ, i64_w, i32_w]
           rfl
          refine take_ (i := 4) (N := some 56) (v := ?_) (a' := ?_) #[false, true, false, true, true, false, false, false, false, false, false] rfl rfl (take_ofW HT_.out HW_.out (by kernel_rfl)) (fun _ _ _ h => h) (Or.inl ⟨by rfl, ?_⟩) hHeld ?_ ?_
          rotate_left
          ·rintro w' ⟨s0, s1, s2, s3, s4⟩
           go_simp
           with_reducible rfl
          rotate_left
          ·simp only [Act.put, List.setIfInBounds_toArray, List.set_cons_zero, List.set_cons_succ, i64_w, i32_w]
           rfl
          refine pure_ (i := 5) (N := some 57) (v := ?_) (a' := ?_) #[false, true, false, true, true, true, false, false, false, false, false] rfl rfl (any_of HT_.out (by kernel_rfl)) (fun _ _ _ h => h) (Or.inl ⟨by rfl, ?_⟩) ?_ ?_
          rotate_left
          ·intro w'
           go_simp
           with_reducible rfl
          rotate_left
          ·simp only [Act.put, List.setIfInBounds_toArray, List.set_cons_zero, List.set_cons_succ, i64_w, i32_w]
           rfl
          refine join_ (σ := Value × Value × Value × Value) 2 #[true, true, true, true, true, true, true, true, true, false, false] (fun s_ => [(52, s_.1), (54, s_.2.1), (58, s_.2.2.1), (60, s_.2.2.2), (59, .agg #[.int .i64 3, .int .i64 0, .int .i64 0, .int .i64 1, .int .i64 1, .int .i64 0, .int .i64 0, .slice none 0 0, .slice none 0 0, s_.2.2.1])]) (fun s_ w' => (w'.cell? ⟨gb494, 0, none⟩ = some (.int .i64 1) ∧ w'.cell? ⟨gb494, 1, none⟩ = some (.int .i64 1) ∧ w'.cell? ⟨gb494, 2, none⟩ = some (.int .i64 0) ∧ w'.cell? ⟨gb494, 3, none⟩ = some (.int .i64 0) ∧ w'.cell? ⟨gb494, 4, none⟩ = some (.slice none 0 0)) ∧ (Kd.N k33 33 w' w.heap.size (fun k_ => nB k_ v505 ∧ some k_ ≠ (s_.2.1 : Value).ownBlock ∧ some k_ ≠ (s_.2.2.2 : Value).ownBlock ∧ nB k_ (.slice Ao7 t483.length co7) ∧ k_ ≠ gb494) (.slice Ao50 y501.length co50) y501) ∧ (Kd.N k33 33 w' w.heap.size (fun k_ => some k_ ≠ (s_.2.1 : Value).ownBlock ∧ some k_ ≠ (s_.2.2.2 : Value).ownBlock ∧ k_ ≠ gb494) v505 y504) ∧ (Kd.N k33 33 w' w.heap.size (fun k_ => nB k_ (.slice Ao50 y501.length co50) ∧ nB k_ v505 ∧ some k_ ≠ (s_.2.2.2 : Value).ownBlock ∧ k_ ≠ gb494) s_.2.1 y510) ∧ (Kd.N k33 33 w' w.heap.size (fun k_ => nB k_ (.slice Ao50 y501.length co50) ∧ nB k_ v505 ∧ some k_ ≠ (s_.2.1 : Value).ownBlock ∧ nB k_ (.slice Ao7 t483.length co7) ∧ k_ ≠ gb494) s_.2.2.2 y516) ∧ (Kd.N k33 33 w' w.heap.size (fun k_ => nB k_ (.slice Ao50 y501.length co50) ∧ nB k_ v505 ∧ some k_ ≠ (s_.2.1 : Value).ownBlock ∧ some k_ ≠ (s_.2.2.2 : Value).ownBlock ∧ k_ ≠ gb494) (.slice Ao7 t483.length co7) t483) ∧ (w'.heap[gb494]? = some (.cells #[.int .i64 1, .int .i64 1, .int .i64 0, .int .i64 0, .slice none 0 0] 31 (0, 0))) ∧ (Below w.heap.size w w')) ?_ ?_
          rotate_left
          ·intro hJ0_2_6_8
           refine join_ (σ := Value × Value × Value) 3 #[true, true, true, true, true, true, true, true, false, false, false] (fun s_ => [(52, s_.1), (54, s_.2.1), (58, s_.2.2), (59, .agg #[.int .i64 3, .int .i64 0, .int .i64 0, .int .i64 1, .int .i64 1, .int .i64 0, .int .i64 0, .slice none 0 0, .slice none 0 0, s_.2.2])]) (fun s_ w' => (w'.cell? ⟨gb494, 0, none⟩ = some (.int .i64 1) ∧ w'.cell? ⟨gb494, 1, none⟩ = some (.int .i64 1) ∧ w'.cell? ⟨gb494, 2, none⟩ = some (.int .i64 0) ∧ w'.cell? ⟨gb494, 3, none⟩ = some (.int .i64 0) ∧ w'.cell? ⟨gb494, 4, none⟩ = some (.slice none 0 0)) ∧ (Kd.N k33 33 w' w.heap.size (fun k_ => nB k_ v505 ∧ some k_ ≠ (s_.2.1 : Value).ownBlock ∧ some k_ ≠ (s_.2.2 : Value).ownBlock ∧ nB k_ (.slice Ao7 t483.length co7) ∧ k_ ≠ gb494) (.slice Ao50 y501.length co50) y501) ∧ (Kd.N k33 33 w' w.heap.size (fun k_ => some k_ ≠ (s_.2.1 : Value).ownBlock ∧ some k_ ≠ (s_.2.2 : Value).ownBlock ∧ k_ ≠ gb494) v505 y504) ∧ (Kd.N k33 33 w' w.heap.size (fun k_ => nB k_ (.slice Ao50 y501.length co50) ∧ nB k_ v505 ∧ some k_ ≠ (s_.2.2 : Value).ownBlock ∧ k_ ≠ gb494) s_.2.1 y510) ∧ (Kd.N k33 33 w' w.heap.size (fun k_ => nB k_ (.slice Ao50 y501.length co50) ∧ nB k_ v505 ∧ some k_ ≠ (s_.2.1 : Value).ownBlock ∧ nB k_ (.slice Ao7 t483.length co7) ∧ k_ ≠ gb494) s_.2.2 y513) ∧ (Kd.N k33 33 w' w.heap.size (fun k_ => nB k_ (.slice Ao50 y501.length co50) ∧ nB k_ v505 ∧ some k_ ≠ (s_.2.1 : Value).ownBlock ∧ some k_ ≠ (s_.2.2 : Value).ownBlock ∧ k_ ≠ gb494) (.slice Ao7 t483.length co7) t483) ∧ (w'.heap[gb494]? = some (.cells #[.int .i64 1, .int .i64 1, .int .i64 0, .int .i64 0, .slice none 0 0] 31 (0, 0))) ∧ (Below w.heap.size w w')) ?_ ?_
           rotate_left
           ·intro hJ0_2_6
            refine join_ (σ := Value × Value × Value) 3 #[true, true, false, true, true, true, true, true, true, false, false] (fun s_ => [(52, s_.1), (58, s_.2.1), (60, s_.2.2), (59, .agg #[.int .i64 3, .int .i64 0, .int .i64 0, .int .i64 1, .int .i64 1, .int .i64 0, .int .i64 0, .slice none 0 0, .slice none 0 0, s_.2.1])]) (fun s_ w' => (w'.cell? ⟨gb494, 0, none⟩ = some (.int .i64 1) ∧ w'.cell? ⟨gb494, 1, none⟩ = some (.int .i64 1) ∧ w'.cell? ⟨gb494, 2, none⟩ = some (.int .i64 0) ∧ w'.cell? ⟨gb494, 3, none⟩ = some (.int .i64 0) ∧ w'.cell? ⟨gb494, 4, none⟩ = some (.slice none 0 0)) ∧ (Kd.N k33 33 w' w.heap.size (fun k_ => nB k_ v505 ∧ some k_ ≠ (s_.1 : Value).ownBlock ∧ some k_ ≠ (s_.2.2 : Value).ownBlock ∧ nB k_ (.slice Ao7 t483.length co7) ∧ k_ ≠ gb494) (.slice Ao50 y501.length co50) y501) ∧ (Kd.N k33 33 w' w.heap.size (fun k_ => some k_ ≠ (s_.1 : Value).ownBlock ∧ some k_ ≠ (s_.2.2 : Value).ownBlock ∧ k_ ≠ gb494) v505 y504) ∧ (Kd.N k33 33 w' w.heap.size (fun k_ => nB k_ (.slice Ao50 y501.length co50) ∧ nB k_ v505 ∧ some k_ ≠ (s_.2.2 : Value).ownBlock ∧ nB k_ (.slice Ao7 t483.length co7) ∧ k_ ≠ gb494) s_.1 y507) ∧ (Kd.N k33 33 w' w.heap.size (fun k_ => nB k_ (.slice Ao50 y501.length co50) ∧ nB k_ v505 ∧ some k_ ≠ (s_.1 : Value).ownBlock ∧ nB k_ (.slice Ao7 t483.length co7) ∧ k_ ≠ gb494) s_.2.2 y516) ∧ (Kd.N k33 33 w' w.heap.size (fun k_ => nB k_ (.slice Ao50 y501.length co50) ∧ nB k_ v505 ∧ some k_ ≠ (s_.1 : Value).ownBlock ∧ some k_ ≠ (s_.2.2 : Value).ownBlock ∧ k_ ≠ gb494) (.slice Ao7 t483.length co7) t483) ∧ (w'.heap[gb494]? = some (.cells #[.int .i64 1, .int .i64 1, .int .i64 0, .int .i64 0, .slice none 0 0] 31 (0, 0))) ∧ (Below w.heap.size w w')) ?_ ?_
            rotate_left
            ·intro hJ0_6_8
             refine join_ (σ := Value × Value) 5 #[true, true, true, true, true, true, false, false, false, false, false] (fun s_ => [(52, s_.1), (54, s_.2)]) (fun s_ w' => (w'.cell? ⟨gb494, 0, none⟩ = some (.int .i64 1) ∧ w'.cell? ⟨gb494, 1, none⟩ = some (.int .i64 1) ∧ w'.cell? ⟨gb494, 2, none⟩ = some (.int .i64 0) ∧ w'.cell? ⟨gb494, 3, none⟩ = some (.int .i64 0) ∧ w'.cell? ⟨gb494, 4, none⟩ = some (.slice none 0 0)) ∧ (Kd.N k33 33 w' w.heap.size (fun k_ => nB k_ v505 ∧ some k_ ≠ (s_.2 : Value).ownBlock ∧ nB k_ (.slice Ao7 t483.length co7) ∧ k_ ≠ gb494) (.slice Ao50 y501.length co50) y501) ∧ (Kd.N k33 33 w' w.heap.size (fun k_ => some k_ ≠ (s_.2 : Value).ownBlock ∧ k_ ≠ gb494) v505 y504) ∧ (Kd.N k33 33 w' w.heap.size (fun k_ => nB k_ (.slice Ao50 y501.length co50) ∧ nB k_ v505 ∧ k_ ≠ gb494) s_.2 y510) ∧ (Kd.N k33 33 w' w.heap.size (fun k_ => nB k_ (.slice Ao50 y501.length co50) ∧ nB k_ v505 ∧ some k_ ≠ (s_.2 : Value).ownBlock ∧ k_ ≠ gb494) (.slice Ao7 t483.length co7) t483) ∧ (w'.heap[gb494]? = some (.cells #[.int .i64 1, .int .i64 1, .int .i64 0, .int .i64 0, .slice none 0 0] 31 (0, 0))) ∧ (Below w.heap.size w w')) ?_ ?_
             rotate_left
             ·intro hJ0_2
              refine join_ (σ := Value × Value) 4 #[true, true, false, true, true, true, true, true, false, false, false] (fun s_ => [(52, s_.1), (58, s_.2), (59, .agg #[.int .i64 3, .int .i64 0, .int .i64 0, .int .i64 1, .int .i64 1, .int .i64 0, .int .i64 0, .slice none 0 0, .slice none 0 0, s_.2])]) (fun s_ w' => (w'.cell? ⟨gb494, 0, none⟩ = some (.int .i64 1) ∧ w'.cell? ⟨gb494, 1, none⟩ = some (.int .i64 1) ∧ w'.cell? ⟨gb494, 2, none⟩ = some (.int .i64 0) ∧ w'.cell? ⟨gb494, 3, none⟩ = some (.int .i64 0) ∧ w'.cell? ⟨gb494, 4, none⟩ = some (.slice none 0 0)) ∧ (Kd.N k33 33 w' w.heap.size (fun k_ => nB k_ v505 ∧ some k_ ≠ (s_.1 : Value).ownBlock ∧ some k_ ≠ (s_.2 : Value).ownBlock ∧ nB k_ (.slice Ao7 t483.length co7) ∧ k_ ≠ gb494) (.slice Ao50 y501.length co50) y501) ∧ (Kd.N k33 33 w' w.heap.size (fun k_ => some k_ ≠ (s_.1 : Value).ownBlock ∧ some k_ ≠ (s_.2 : Value).ownBlock ∧ k_ ≠ gb494) v505 y504) ∧ (Kd.N k33 33 w' w.heap.size (fun k_ => nB k_ (.slice Ao50 y501.length co50) ∧ nB k_ v505 ∧ some k_ ≠ (s_.2 : Value).ownBlock ∧ nB k_ (.slice Ao7 t483.length co7) ∧ k_ ≠ gb494) s_.1 y507) ∧ (Kd.N k33 33 w' w.heap.size (fun k_ => nB k_ (.slice Ao50 y501.length co50) ∧ nB k_ v505 ∧ some k_ ≠ (s_.1 : Value).ownBlock ∧ nB k_ (.slice Ao7 t483.length co7) ∧ k_ ≠ gb494) s_.2 y513) ∧ (Kd.N k33 33 w' w.heap.size (fun k_ => nB k_ (.slice Ao50 y501.length co50) ∧ nB k_ v505 ∧ some k_ ≠ (s_.1 : Value).ownBlock ∧ some k_ ≠ (s_.2 : Value).ownBlock ∧ k_ ≠ gb494) (.slice Ao7 t483.length co7) t483) ∧ (w'.heap[gb494]? = some (.cells #[.int .i64 1, .int .i64 1, .int .i64 0, .int .i64 0, .slice none 0 0] 31 (0, 0))) ∧ (Below w.heap.size w w')) ?_ ?_
              rotate_left
              ·intro hJ0_6
               refine join_ (σ := Value × Value) 4 #[false, true, false, true, true, true, true, true, true, false, false] (fun s_ => [(58, s_.1), (60, s_.2), (59, .agg #[.int .i64 3, .int .i64 0, .int .i64 0, .int .i64 1, .int .i64 1, .int .i64 0, .int .i64 0, .slice none 0 0, .slice none 0 0, s_.1])]) (fun s_ w' => (w'.cell? ⟨gb494, 0, none⟩ = some (.int .i64 1) ∧ w'.cell? ⟨gb494, 1, none⟩ = some (.int .i64 1) ∧ w'.cell? ⟨gb494, 2, none⟩ = some (.int .i64 0) ∧ w'.cell? ⟨gb494, 3, none⟩ = some (.int .i64 0) ∧ w'.cell? ⟨gb494, 4, none⟩ = some (.slice none 0 0)) ∧ (Kd.N k33 33 w' w.heap.size (fun k_ => nB k_ v505 ∧ some k_ ≠ (s_.2 : Value).ownBlock ∧ nB k_ (.slice Ao7 t483.length co7) ∧ k_ ≠ gb494) (.slice Ao50 y501.length co50) y501) ∧ (Kd.N k33 33 w' w.heap.size (fun k_ => some k_ ≠ (s_.2 : Value).ownBlock ∧ k_ ≠ gb494) v505 y504) ∧ (Kd.N k33 33 w' w.heap.size (fun k_ => nB k_ (.slice Ao50 y501.length co50) ∧ nB k_ v505 ∧ nB k_ (.slice Ao7 t483.length co7) ∧ k_ ≠ gb494) s_.2 y516) ∧ (Kd.N k33 33 w' w.heap.size (fun k_ => nB k_ (.slice Ao50 y501.length co50) ∧ nB k_ v505 ∧ some k_ ≠ (s_.2 : Value).ownBlock ∧ k_ ≠ gb494) (.slice Ao7 t483.length co7) t483) ∧ (w'.heap[gb494]? = some (.cells #[.int .i64 1, .int .i64 1, .int .i64 0, .int .i64 0, .slice none 0 0] 31 (0, 0))) ∧ (Below w.heap.size w w')) ?_ ?_
               rotate_left
               ·intro hJ6_8
                refine join_ (σ := Value) 6 #[true, true, false, true, true, true, false, false, false, false, false] (fun s_ => [(52, s_)]) (fun s_ w' => (w'.cell? ⟨gb494, 0, none⟩ = some (.int .i64 1) ∧ w'.cell? ⟨gb494, 1, none⟩ = some (.int .i64 1) ∧ w'.cell? ⟨gb494, 2, none⟩ = some (.int .i64 0) ∧ w'.cell? ⟨gb494, 3, none⟩ = some (.int .i64 0) ∧ w'.cell? ⟨gb494, 4, none⟩ = some (.slice none 0 0)) ∧ (Kd.N k33 33 w' w.heap.size (fun k_ => nB k_ v505 ∧ nB k_ s_ ∧ nB k_ (.slice Ao7 t483.length co7) ∧ k_ ≠ gb494) (.slice Ao50 y501.length co50) y501) ∧ (Kd.N k33 33 w' w.heap.size (fun k_ => nB k_ s_ ∧ k_ ≠ gb494) v505 y504) ∧ (Kd.N k33 33 w' w.heap.size (fun k_ => nB k_ (.slice Ao50 y501.length co50) ∧ nB k_ v505 ∧ nB k_ (.slice Ao7 t483.length co7) ∧ k_ ≠ gb494) s_ y507) ∧ (Kd.N k33 33 w' w.heap.size (fun k_ => nB k_ (.slice Ao50 y501.length co50) ∧ nB k_ v505 ∧ nB k_ s_ ∧ k_ ≠ gb494) (.slice Ao7 t483.length co7) t483) ∧ (w'.heap[gb494]? = some (.cells #[.int .i64 1, .int .i64 1, .int .i64 0, .int .i64 0, .slice none 0 0] 31 (0, 0))) ∧ (Below w.heap.size w w')) ?_ ?_
                rotate_left
                ·intro hJ0
                 refine join_ (σ := Value) 5 #[false, true, false, true, true, true, true, true, false, false, false] (fun s_ => [(58, s_), (59, .agg #[.int .i64 3, .int .i64 0, .int .i64 0, .int .i64 1, .int .i64 1, .int .i64 0, .int .i64 0, .slice none 0 0, .slice none 0 0, s_])]) (fun s_ w' => (w'.cell? ⟨gb494, 0, none⟩ = some (.int .i64 1) ∧ w'.cell? ⟨gb494, 1, none⟩ = some (.int .i64 1) ∧ w'.cell? ⟨gb494, 2, none⟩ = some (.int .i64 0) ∧ w'.cell? ⟨gb494, 3, none⟩ = some (.int .i64 0) ∧ w'.cell? ⟨gb494, 4, none⟩ = some (.slice none 0 0)) ∧ (Kd.N k33 33 w' w.heap.size (fun k_ => nB k_ v505 ∧ nB k_ s_ ∧ nB k_ (.slice Ao7 t483.length co7) ∧ k_ ≠ gb494) (.slice Ao50 y501.length co50) y501) ∧ (Kd.N k33 33 w' w.heap.size (fun k_ => nB k_ s_ ∧ k_ ≠ gb494) v505 y504) ∧ (Kd.N k33 33 w' w.heap.size (fun k_ => nB k_ (.slice Ao50 y501.length co50) ∧ nB k_ v505 ∧ nB k_ (.slice Ao7 t483.length co7) ∧ k_ ≠ gb494) s_ y513) ∧ (Kd.N k33 33 w' w.heap.size (fun k_ => nB k_ (.slice Ao50 y501.length co50) ∧ nB k_ v505 ∧ nB k_ s_ ∧ k_ ≠ gb494) (.slice Ao7 t483.length co7) t483) ∧ (w'.heap[gb494]? = some (.cells #[.int .i64 1, .int .i64 1, .int .i64 0, .int .i64 0, .slice none 0 0] 31 (0, 0))) ∧ (Below w.heap.size w w')) ?_ ?_
                 rotate_left
                 ·intro hJ6
                  refine two_ (i := 0) (j := 6) (Ni := some 52) (Nj := some 58) #[true, true, false, true, true, true, false, false, false, false, false] #[false, true, false, true, true, true, true, false, false, false, false] rfl rfl rfl rfl (two_of HT_.out (by kernel_rfl)) (by decide) (by decide) (fun K hK => ?_) (fun K hK => ?_)
                  ·skip
                   refine Kd.N_lit_step k33 _ 33 ?hg (N' := 52) ?hd (xs := ([] : List (S33))) (inner := []) (ok := (fun k_ => nB k_ (.slice Ao7 t483.length co7) ∧ nB k_ (.slice Ao50 y501.length co50) ∧ nB k_ v505 ∧ k_ ≠ gb494)) (okp := (fun k_ => nB k_ (.slice Ao7 t483.length co7) ∧ nB k_ (.slice Ao50 y501.length co50) ∧ nB k_ v505 ∧ k_ ≠ gb494)) ?hr ?hp (fun _ hk => hk) ((show ∀ k_, w51.heap.size ≤ k_ → (fun k_ => nB k_ (.slice Ao7 t483.length co7) ∧ nB k_ (.slice Ao50 y501.length co50) ∧ nB k_ v505 ∧ k_ ≠ gb494) k_ from fun k_ hk => ⟨Kd.fresh' (Kd.N_lt (mN HO_3.out)) k_ hk, Kd.fresh' (Kd.N_lt (mN HO503.out)) k_ hk, Kd.fresh' (Kd.N_lt (mN HO506.out)) k_ hk, fB BK494.out hk⟩) _ (Nat.le_refl _)) (Below.refl _ _) (Nat.le_refl _) (by simp) ?_; (case hd => rfl); (case hg => rfl); (case hr => first | (go_simp; done) | (go_simp; rfl)); (case hp => exact (Reps.none _ _))
                   intro v508 w52 ho53 hb hg_ hnew_
                   clear hg_ hnew_
                   (first | rw [← Ny507.out] at ho53 | (simp only [Int.reduceToNat] at ho53; rw [← Ny507.out] at ho53))
                   have n_ := az (Kd.N_elder' (mN HO_3.out) (by first | exact Kd.N_base ho53 | exact Kd.R_base ho53) hb) <| az (Kd.N_elder' (mN HO503.out) (by first | exact Kd.N_base ho53 | exact Kd.R_base ho53) hb) <| az (Kd.N_elder' (mN HO506.out) (by first | exact Kd.N_base ho53 | exact Kd.R_base ho53) hb) <| az (Kd.N_lower ho53 (below_size (mB HB.out))) <| az (bB BK494.out hb) <| z0 (below_step (mB HB.out) hb)
                   clear HO_3 HO503 HO506 BK494 HB
                   obtain ⟨HO_3, HO503, HO506, HO509, BK494, HB⟩ := n_
                   clear hb ho53
                   refine hK.out _ _ q3_1 (fun hHeld => ?_)
                   clear hK K
                   refine norm_ (a' := ?_) ?_ ?_
                   rotate_left
                   ·show Act.put _ (some 52) _ = _
                    simp only [Act.put, List.setIfInBounds_toArray, List.set_cons_zero, List.set_cons_succ, i64_w, i32_w]
                    rfl
                   exact norm_ q3_2 (hJ0 (v508) _ ⟨hHeld, (by (with_reducible repeat (first | apply Kd.N_alloc | apply Kd.N_drewN | apply Kd.N_drew)); exact Kd.N_mono HO503.out (fun _ hk => ⟨hk.1.2, ⟨hk.2, ⟨hk.1.1.1, hk.1.1.2⟩⟩⟩)), q3_5, (by (with_reducible repeat (first | apply Kd.N_alloc | apply Kd.N_drewN | apply Kd.N_drew)); exact Kd.N_mono HO509.out (fun _ hk => ⟨hk.2.1, ⟨hk.2.2.1, ⟨hk.1, hk.2.2.2⟩⟩⟩)), (by (with_reducible repeat (first | apply Kd.N_alloc | apply Kd.N_drewN | apply Kd.N_drew)); exact Kd.N_mono HO_3.out (fun _ hk => ⟨hk.1.1.1, ⟨hk.1.2, ⟨hk.2, hk.1.1.2⟩⟩⟩)), (mK BK494.out), (mB HB.out)⟩)
                  ·skip
                   refine Kd.N_lit_step k33 _ 33 ?hg (N' := 58) ?hd (xs := ([(⟨2, (⟨0, 0⟩ : S28), (⟨1, 1, (⟨0, 0⟩ : S28), ([] : List (S31))⟩ : S31), ([] : List (S33)), ([] : List (S33))⟩ : S33)] : List (S33))) (inner := [.int .i64 2, .int .i64 0, .int .i64 0, .int .i64 1, .int .i64 1, .int .i64 0, .int .i64 0, .slice none 0 0, .slice none 0 0, .slice none 0 0]) (ok := (fun k_ => nB k_ (.slice Ao7 t483.length co7) ∧ nB k_ (.slice Ao50 y501.length co50) ∧ nB k_ v505 ∧ k_ ≠ gb494)) (okp := (fun k_ => nB k_ (.slice Ao7 t483.length co7) ∧ nB k_ (.slice Ao50 y501.length co50) ∧ nB k_ v505 ∧ k_ ≠ gb494)) ?hr ?hp (fun _ hk => hk) ((show ∀ k_, w51.heap.size ≤ k_ → (fun k_ => nB k_ (.slice Ao7 t483.length co7) ∧ nB k_ (.slice Ao50 y501.length co50) ∧ nB k_ v505 ∧ k_ ≠ gb494) k_ from fun k_ hk => ⟨Kd.fresh' (Kd.N_lt (mN HO_3.out)) k_ hk, Kd.fresh' (Kd.N_lt (mN HO503.out)) k_ hk, Kd.fresh' (Kd.N_lt (mN HO506.out)) k_ hk, fB BK494.out hk⟩) _ (Nat.le_refl _)) (Below.refl _ _) (Nat.le_refl _) (by simp) ?_; (case hd => rfl); (case hg => rfl); (case hr => first | (go_simp; done) | (go_simp; rfl)); (case hp => exact (Reps.c10 (show Kd.FK k33 _ _ (⟨2, (⟨0, 0⟩ : S28), (⟨1, 1, (⟨0, 0⟩ : S28), ([] : List (S31))⟩ : S31), ([] : List (S33)), ([] : List (S33))⟩ : S33) [.int .i64 2, .int .i64 0, .int .i64 0, .int .i64 1, .int .i64 1, .int .i64 0, .int .i64 0, .slice none 0 0, .slice none 0 0, .slice none 0 0] from (k33_mkF _ _ (⟨2, (⟨0, 0⟩ : S28), (⟨1, 1, (⟨0, 0⟩ : S28), ([] : List (S31))⟩ : S31), ([] : List (S33)), ([] : List (S33))⟩ : S33) (Nat.le_refl _) (Kd.F_nil _ _ _) (Nat.le_refl _) (Kd.F_nil _ _ _) (Nat.le_refl _) (Kd.F_nil _ _ _))) (Reps.none _ _)))
                   intro v514 w52 ho53 hb hg_ hnew_
                   clear hg_ hnew_
                   (first | rw [← Ny513.out] at ho53 | (simp only [Int.reduceToNat] at ho53; rw [← Ny513.out] at ho53))
                   have n_ := az (Kd.N_elder' (mN HO_3.out) (by first | exact Kd.N_base ho53 | exact Kd.R_base ho53) hb) <| az (Kd.N_elder' (mN HO503.out) (by first | exact Kd.N_base ho53 | exact Kd.R_base ho53) hb) <| az (Kd.N_elder' (mN HO506.out) (by first | exact Kd.N_base ho53 | exact Kd.R_base ho53) hb) <| az (Kd.N_lower ho53 (below_size (mB HB.out))) <| az (bB BK494.out hb) <| z0 (below_step (mB HB.out) hb)
                   clear HO_3 HO503 HO506 BK494 HB
                   obtain ⟨HO_3, HO503, HO506, HO515, BK494, HB⟩ := n_
                   clear hb ho53
                   obtain ⟨Ao54, co54, eo54⟩ := Kd.N_slice HO515.out
                   (first | subst eo54 | (injection eo54 with f1_ f2_ f3_; have f4_ := f1_.symm; have f5_ := f3_.symm; clear f1_ f2_ f3_; subst f4_; subst f5_))
                   refine hK.out _ _ q3_1 (fun hHeld => ?_)
                   clear hK K
                   refine norm_ (a' := ?_) ?_ ?_
                   rotate_left
                   ·show Act.put _ (some 58) _ = _
                    simp only [Act.put, List.setIfInBounds_toArray, List.set_cons_zero, List.set_cons_succ, i64_w, i32_w]
                    rfl
                   refine pure_ (i := 7) (N := some 59) (v := ?_) (a' := ?_) #[false, true, false, true, true, true, true, true, false, false, false] rfl rfl (any_of HT_.out (by kernel_rfl)) (fun _ _ _ h => h) (Or.inl ⟨by rfl, ?_⟩) ?_ ?_
                   rotate_left
                   ·intro w'
                    go_simp
                    with_reducible rfl
                   rotate_left
                   ·simp only [Act.put, List.setIfInBounds_toArray, List.set_cons_zero, List.set_cons_succ, i64_w, i32_w]
                    rfl
                   exact norm_ q3_2 (hJ6 (.slice Ao54 y513.length co54) _ ⟨hHeld, (by (with_reducible repeat (first | apply Kd.N_alloc | apply Kd.N_drewN | apply Kd.N_drew)); exact Kd.N_mono HO503.out (fun _ hk => ⟨hk.1.2, ⟨hk.2, ⟨hk.1.1.1, hk.1.1.2⟩⟩⟩)), q3_5, (by (with_reducible repeat (first | apply Kd.N_alloc | apply Kd.N_drewN | apply Kd.N_drew)); exact Kd.N_mono HO515.out (fun _ hk => ⟨hk.2.1, ⟨hk.2.2.1, ⟨hk.1, hk.2.2.2⟩⟩⟩)), (by (with_reducible repeat (first | apply Kd.N_alloc | apply Kd.N_drewN | apply Kd.N_drew)); exact Kd.N_mono HO_3.out (fun _ hk => ⟨hk.1.1.1, ⟨hk.1.2, ⟨hk.2, hk.1.1.2⟩⟩⟩)), (mK BK494.out), (mB HB.out)⟩)
                 ·skip
                  rintro v514 w55 ⟨hS_, h0_, h1_, h2_, h3_, h4_, h5_⟩
                  have n0_ : Aside0 (Kd.N k33 33 w55 w.heap.size (fun k_ => nB k_ v505 ∧ nB k_ v514 ∧ nB k_ (.slice Ao7 t483.length co7) ∧ k_ ≠ gb494) (.slice Ao50 y501.length co50) y501) := ⟨h0_⟩
                  have n1_ : Aside0 (Kd.N k33 33 w55 w.heap.size (fun k_ => nB k_ v514 ∧ k_ ≠ gb494) v505 y504) := ⟨h1_⟩
                  have n2_ : Aside0 (Kd.N k33 33 w55 w.heap.size (fun k_ => nB k_ (.slice Ao50 y501.length co50) ∧ nB k_ v505 ∧ nB k_ (.slice Ao7 t483.length co7) ∧ k_ ≠ gb494) v514 y513) := ⟨h2_⟩
                  have n3_ : Aside0 (Kd.N k33 33 w55 w.heap.size (fun k_ => nB k_ (.slice Ao50 y501.length co50) ∧ nB k_ v505 ∧ nB k_ v514 ∧ k_ ≠ gb494) (.slice Ao7 t483.length co7) t483) := ⟨h3_⟩
                  have n4_ : Aside0 (w55.heap[gb494]? = some (.cells #[.int .i64 1, .int .i64 1, .int .i64 0, .int .i64 0, .slice none 0 0] 31 (0, 0))) := ⟨h4_⟩
                  have n5_ : Aside0 (Below w.heap.size w w55) := ⟨h5_⟩
                  clear HO_3 HO503 HO506 BK494 HB h0_ h1_ h2_ h3_ h4_ h5_
                  have HO503 := n0_
                  have HO506 := n1_
                  have HO515 := n2_
                  have HO_3 := n3_
                  have BK494 := n4_
                  have HB := n5_
                  clear n0_ n1_ n2_ n3_ n4_ n5_
                  have hHeld : w55.cell? ⟨gb494, 0, none⟩ = some (.int .i64 1) ∧ w55.cell? ⟨gb494, 1, none⟩ = some (.int .i64 1) ∧ w55.cell? ⟨gb494, 2, none⟩ = some (.int .i64 0) ∧ w55.cell? ⟨gb494, 3, none⟩ = some (.int .i64 0) ∧ w55.cell? ⟨gb494, 4, none⟩ = some (.slice none 0 0) := hS_
                  obtain ⟨Ao56, co56, eo56⟩ := Kd.N_slice HO515.out
                  (first | subst eo56 | (injection eo56 with f1_ f2_ f3_; have f4_ := f1_.symm; have f5_ := f3_.symm; clear f1_ f2_ f3_; subst f4_; subst f5_))
                  refine norm_ (a' := ?_) ?_ ?_
                  rotate_left
                  ·simp only [putAll, Act.put, List.setIfInBounds_toArray, List.set_cons_zero, List.set_cons_succ]
                   rfl
                  refine two_ (i := 0) (j := 8) (Ni := some 52) (Nj := some 60) #[true, true, false, true, true, true, true, true, false, false, false] #[false, true, false, true, true, true, true, true, true, false, false] rfl rfl rfl rfl (two_of HT_.out (by kernel_rfl)) (by decide) (by decide) (fun K hK => ?_) (fun K hK => ?_)
                  ·skip
                   refine Kd.N_lit_step k33 _ 33 ?hg (N' := 52) ?hd (xs := ([] : List (S33))) (inner := []) (ok := (fun k_ => nB k_ (.slice Ao7 t483.length co7) ∧ nB k_ (.slice Ao50 y501.length co50) ∧ nB k_ v505 ∧ nB k_ (.slice Ao56 y513.length co56) ∧ k_ ≠ gb494)) (okp := (fun k_ => nB k_ (.slice Ao7 t483.length co7) ∧ nB k_ (.slice Ao50 y501.length co50) ∧ nB k_ v505 ∧ nB k_ (.slice Ao56 y513.length co56) ∧ k_ ≠ gb494)) ?hr ?hp (fun _ hk => hk) ((show ∀ k_, w55.heap.size ≤ k_ → (fun k_ => nB k_ (.slice Ao7 t483.length co7) ∧ nB k_ (.slice Ao50 y501.length co50) ∧ nB k_ v505 ∧ nB k_ (.slice Ao56 y513.length co56) ∧ k_ ≠ gb494) k_ from fun k_ hk => ⟨Kd.fresh' (Kd.N_lt (mN HO_3.out)) k_ hk, Kd.fresh' (Kd.N_lt (mN HO503.out)) k_ hk, Kd.fresh' (Kd.N_lt (mN HO506.out)) k_ hk, Kd.fresh' (Kd.N_lt (mN HO515.out)) k_ hk, fB BK494.out hk⟩) _ (Nat.le_refl _)) (Below.refl _ _) (Nat.le_refl _) (by simp) ?_; (case hd => rfl); (case hg => rfl); (case hr => first | (go_simp; done) | (go_simp; rfl)); (case hp => exact (Reps.none _ _))
                   intro v508 w57 ho58 hb hg_ hnew_
                   clear hg_ hnew_
                   (first | rw [← Ny507.out] at ho58 | (simp only [Int.reduceToNat] at ho58; rw [← Ny507.out] at ho58))
                   have n_ := az (Kd.N_elder' (mN HO_3.out) (by first | exact Kd.N_base ho58 | exact Kd.R_base ho58) hb) <| az (Kd.N_elder' (mN HO503.out) (by first | exact Kd.N_base ho58 | exact Kd.R_base ho58) hb) <| az (Kd.N_elder' (mN HO506.out) (by first | exact Kd.N_base ho58 | exact Kd.R_base ho58) hb) <| az (Kd.N_elder' (mN HO515.out) (by first | exact Kd.N_base ho58 | exact Kd.R_base ho58) hb) <| az (Kd.N_lower ho58 (below_size (mB HB.out))) <| az (bB BK494.out hb) <| z0 (below_step (mB HB.out) hb)
                   clear HO_3 HO503 HO506 HO515 BK494 HB
                   obtain ⟨HO_3, HO503, HO506, HO515, HO509, BK494, HB⟩ := n_
                   clear hb ho58
                   refine hK.out _ _ q3_1 (fun hHeld => ?_)
                   clear hK K
                   refine norm_ (a' := ?_) ?_ ?_
                   rotate_left
                   ·show Act.put _ (some 52) _ = _
                    simp only [Act.put, List.setIfInBounds_toArray, List.set_cons_zero, List.set_cons_succ, i64_w, i32_w]
                    rfl
                   exact norm_ q3_2 (hJ0_6 (v508, .slice Ao56 y513.length co56) _ ⟨hHeld, (by (with_reducible repeat (first | apply Kd.N_alloc | apply Kd.N_drewN | apply Kd.N_drew)); exact Kd.N_mono HO503.out (fun _ hk => ⟨hk.1.1, ⟨hk.2, ⟨hk.1.2.1, ⟨hk.1.2.2.1, hk.1.2.2.2⟩⟩⟩⟩)), q3_4, (by (with_reducible repeat (first | apply Kd.N_alloc | apply Kd.N_drewN | apply Kd.N_drew)); exact Kd.N_mono HO509.out (fun _ hk => ⟨hk.2.1, ⟨hk.2.2.1, ⟨hk.2.2.2.1, ⟨hk.1, hk.2.2.2.2⟩⟩⟩⟩)), (by (with_reducible repeat (first | apply Kd.N_alloc | apply Kd.N_drewN | apply Kd.N_drew)); exact Kd.N_mono HO515.out (fun _ hk => ⟨hk.1.1, ⟨hk.1.2.1, ⟨hk.2, ⟨hk.1.2.2.1, hk.1.2.2.2⟩⟩⟩⟩)), q3_3, (mK BK494.out), (mB HB.out)⟩)
                  ·skip
                   refine Kd.N_lit_step k33 _ 33 ?hg (N' := 60) ?hd (xs := ([(⟨3, (⟨0, 0⟩ : S28), (⟨1, 1, (⟨0, 0⟩ : S28), ([] : List (S31))⟩ : S31), ([] : List (S33)), y513⟩ : S33)] : List (S33))) (inner := [.int .i64 3, .int .i64 0, .int .i64 0, .int .i64 1, .int .i64 1, .int .i64 0, .int .i64 0, .slice none 0 0, .slice none 0 0, .slice Ao56 y513.length co56]) (ok := (fun k_ => nB k_ (.slice Ao7 t483.length co7) ∧ nB k_ (.slice Ao50 y501.length co50) ∧ nB k_ v505 ∧ k_ ≠ gb494)) (okp := (fun k_ => nB k_ (.slice Ao7 t483.length co7) ∧ nB k_ (.slice Ao50 y501.length co50) ∧ nB k_ v505 ∧ k_ ≠ gb494)) ?hr ?hp (fun _ hk => hk) ((show ∀ k_, w55.heap.size ≤ k_ → (fun k_ => nB k_ (.slice Ao7 t483.length co7) ∧ nB k_ (.slice Ao50 y501.length co50) ∧ nB k_ v505 ∧ k_ ≠ gb494) k_ from fun k_ hk => ⟨Kd.fresh' (Kd.N_lt (mN HO_3.out)) k_ hk, Kd.fresh' (Kd.N_lt (mN HO503.out)) k_ hk, Kd.fresh' (Kd.N_lt (mN HO506.out)) k_ hk, fB BK494.out hk⟩) _ (Nat.le_refl _)) (Below.refl _ _) (Nat.le_refl _) (by simp) ?_; (case hd => rfl); (case hg => rfl); (case hr => first | (go_simp; done) | (go_simp; rfl)); (case hp => exact (Reps.c10 (show Kd.FK k33 _ _ (⟨3, (⟨0, 0⟩ : S28), (⟨1, 1, (⟨0, 0⟩ : S28), ([] : List (S31))⟩ : S31), ([] : List (S33)), y513⟩ : S33) [.int .i64 3, .int .i64 0, .int .i64 0, .int .i64 1, .int .i64 1, .int .i64 0, .int .i64 0, .slice none 0 0, .slice none 0 0, .slice Ao56 y513.length co56] from (k33_mkF _ _ (⟨3, (⟨0, 0⟩ : S28), (⟨1, 1, (⟨0, 0⟩ : S28), ([] : List (S31))⟩ : S31), ([] : List (S33)), y513⟩ : S33) (Nat.le_refl _) (Kd.F_nil _ _ _) (Nat.le_refl _) (Kd.F_nil _ _ _) (Kd.N_reads' (Kd.N_mono (ok' := (fun k_ => nB k_ (.slice Ao7 t483.length co7) ∧ nB k_ (.slice Ao50 y501.length co50) ∧ nB k_ v505 ∧ k_ ≠ gb494)) (HO515.out) (fun k_ hk => ⟨hk.2.2.1, ⟨hk.1, ⟨hk.2.1, hk.2.2.2⟩⟩⟩))).2.1 (Kd.N_F (Kd.N_mono (ok' := (fun k_ => nB k_ (.slice Ao7 t483.length co7) ∧ nB k_ (.slice Ao50 y501.length co50) ∧ nB k_ v505 ∧ k_ ≠ gb494)) (HO515.out) (fun k_ hk => ⟨hk.2.2.1, ⟨hk.1, ⟨hk.2.1, hk.2.2.2⟩⟩⟩))))) (Reps.none _ _)))
                   intro v517 w57 ho58 hb hg_ hnew_
                   clear hg_ hnew_
                   (first | rw [← Ny516.out] at ho58 | (simp only [Int.reduceToNat] at ho58; rw [← Ny516.out] at ho58))
                   have n_ := az (Kd.N_elder' (mN HO_3.out) (by first | exact Kd.N_base ho58 | exact Kd.R_base ho58) hb) <| az (Kd.N_elder' (mN HO503.out) (by first | exact Kd.N_base ho58 | exact Kd.R_base ho58) hb) <| az (Kd.N_elder' (mN HO506.out) (by first | exact Kd.N_base ho58 | exact Kd.R_base ho58) hb) <| az (Kd.N_lower ho58 (below_size (mB HB.out))) <| az (bB BK494.out hb) <| z0 (below_step (mB HB.out) hb)
                   clear HO_3 HO503 HO506 BK494 HB HO515
                   obtain ⟨HO_3, HO503, HO506, HO518, BK494, HB⟩ := n_
                   clear hb ho58
                   refine hK.out _ _ q3_1 (fun hHeld => ?_)
                   clear hK K
                   refine norm_ (a' := ?_) ?_ ?_
                   rotate_left
                   ·show Act.put _ (some 60) _ = _
                    simp only [Act.put, List.setIfInBounds_toArray, List.set_cons_zero, List.set_cons_succ, i64_w, i32_w]
                    rfl
                   exact norm_ q3_2 (hJ6_8 (.slice Ao56 y513.length co56, v517) _ ⟨hHeld, (by (with_reducible repeat (first | apply Kd.N_alloc | apply Kd.N_drewN | apply Kd.N_drew)); exact Kd.N_mono HO503.out (fun _ hk => ⟨hk.1.1, ⟨hk.2, ⟨hk.1.2.2.1, hk.1.2.2.2⟩⟩⟩)), (by (with_reducible repeat (first | apply Kd.N_alloc | apply Kd.N_drewN | apply Kd.N_drew)); exact Kd.N_mono HO506.out (fun _ hk => ⟨hk.2, hk.1.2⟩)), (by (with_reducible repeat (first | apply Kd.N_alloc | apply Kd.N_drewN | apply Kd.N_drew)); exact Kd.N_mono HO518.out (fun _ hk => ⟨hk.2.1, ⟨hk.2.2.1, ⟨hk.1, hk.2.2.2⟩⟩⟩)), (by (with_reducible repeat (first | apply Kd.N_alloc | apply Kd.N_drewN | apply Kd.N_drew)); exact Kd.N_mono HO_3.out (fun _ hk => ⟨hk.1.1, ⟨hk.1.2.1, ⟨hk.2, hk.1.2.2.2⟩⟩⟩)), (mK BK494.out), (mB HB.out)⟩)
                ·skip
                 rintro v508 w54 ⟨hS_, h0_, h1_, h2_, h3_, h4_, h5_⟩
                 have n0_ : Aside0 (Kd.N k33 33 w54 w.heap.size (fun k_ => nB k_ v505 ∧ nB k_ v508 ∧ nB k_ (.slice Ao7 t483.length co7) ∧ k_ ≠ gb494) (.slice Ao50 y501.length co50) y501) := ⟨h0_⟩
                 have n1_ : Aside0 (Kd.N k33 33 w54 w.heap.size (fun k_ => nB k_ v508 ∧ k_ ≠ gb494) v505 y504) := ⟨h1_⟩
                 have n2_ : Aside0 (Kd.N k33 33 w54 w.heap.size (fun k_ => nB k_ (.slice Ao50 y501.length co50) ∧ nB k_ v505 ∧ nB k_ (.slice Ao7 t483.length co7) ∧ k_ ≠ gb494) v508 y507) := ⟨h2_⟩
                 have n3_ : Aside0 (Kd.N k33 33 w54 w.heap.size (fun k_ => nB k_ (.slice Ao50 y501.length co50) ∧ nB k_ v505 ∧ nB k_ v508 ∧ k_ ≠ gb494) (.slice Ao7 t483.length co7) t483) := ⟨h3_⟩
                 have n4_ : Aside0 (w54.heap[gb494]? = some (.cells #[.int .i64 1, .int .i64 1, .int .i64 0, .int .i64 0, .slice none 0 0] 31 (0, 0))) := ⟨h4_⟩
                 have n5_ : Aside0 (Below w.heap.size w w54) := ⟨h5_⟩
                 clear HO_3 HO503 HO506 BK494 HB h0_ h1_ h2_ h3_ h4_ h5_
                 have HO503 := n0_
                 have HO506 := n1_
                 have HO509 := n2_
                 have HO_3 := n3_
                 have BK494 := n4_
                 have HB := n5_
                 clear n0_ n1_ n2_ n3_ n4_ n5_
                 have hHeld : w54.cell? ⟨gb494, 0, none⟩ = some (.int .i64 1) ∧ w54.cell? ⟨gb494, 1, none⟩ = some (.int .i64 1) ∧ w54.cell? ⟨gb494, 2, none⟩ = some (.int .i64 0) ∧ w54.cell? ⟨gb494, 3, none⟩ = some (.int .i64 0) ∧ w54.cell? ⟨gb494, 4, none⟩ = some (.slice none 0 0) := hS_
                 refine norm_ (a' := ?_) ?_ ?_
                 rotate_left
                 ·simp only [putAll, Act.put, List.setIfInBounds_toArray, List.set_cons_zero, List.set_cons_succ]
                  rfl
                 refine two_ (i := 2) (j := 6) (Ni := some 54) (Nj := some 58) #[true, true, true, true, true, true, false, false, false, false, false] #[true, true, false, true, true, true, true, false, false, false, false] rfl rfl rfl rfl (two_of HT_.out (by kernel_rfl)) (by decide) (by decide) (fun K hK => ?_) (fun K hK => ?_)
                 ·skip
                  refine Kd.N_append_rows_step k33 (w0 := w) w.heap.size (by rfl) (.tmp 52) (.tmp 53) 23 33 (.agg #[(.int .i64 0), (.int .i64 0), (.int .i64 0), (.int .i64 0), (.int .i64 0), (.int .i64 0), (.int .i64 0), (.slice none 0 0), (.slice none 0 0), (.slice none 0 0)]) 128 rfl Tryz.underlying23 info33 rfl (by decide) (by omega) v508 y507 t483 _ _ _ (fun k_ => nB k_ (.slice Ao50 y501.length co50) ∧ nB k_ v505 ∧ k_ ≠ gb494) (fun k_ => ((fun k_ => nB k_ (.slice Ao50 y501.length co50) ∧ nB k_ v505 ∧ k_ ≠ gb494)) k_ ∧ nB k_ v508) rfl rfl ?aO ?aR (fun _ hk => hk) ?aF ?aB ?aS ?aL ?_
                  (case aR => exact (by skip; exact Kd.N_F (Kd.N_mono (ok' := (fun k_ => ((fun k_ => nB k_ (.slice Ao50 y501.length co50) ∧ nB k_ v505 ∧ k_ ≠ gb494)) k_ ∧ nB k_ v508)) (HO_3.out) (fun k_ hk => ⟨⟨hk.1, ⟨hk.2.1, hk.2.2.2⟩⟩, hk.2.2.1⟩))))
                  (case aB => exact (mB HB.out))
                  (case aF => exact (fun k_ hk => ⟨Kd.fresh' (Kd.N_lt (mN HO503.out)) k_ hk, Kd.fresh' (Kd.N_lt (mN HO506.out)) k_ hk, fB BK494.out hk⟩))
                  (case aO => exact (by (with_reducible repeat (first | apply Kd.N_alloc | apply Kd.N_drewN | apply Kd.N_drew)); exact Kd.N_mono HO509.out (fun _ hk => ⟨hk.1, ⟨hk.2.1, hk.2.2.2⟩⟩)))
                  (case aS => exact (below_size (mB HB.out)))
                  (case aL => have := LMc36.out; omega)
                  intro v511 w55 ho hb hg hat
                  rw [← Ny510.out] at ho
                  have n_ := And.intro (z0 (Kd.N_afterv (ok := (fun k_ => nB k_ (.slice Ao50 y501.length co50) ∧ nB k_ v505 ∧ k_ ≠ gb494)) (by (with_reducible repeat (first | apply Kd.N_alloc | apply Kd.N_drewN | apply Kd.N_drew)); exact Kd.N_mono HO_3.out (fun _ hk => ⟨⟨hk.1, ⟨hk.2.1, hk.2.2.2⟩⟩, hk.2.2.1⟩)) hg hat)) <| az (blk_grown (g := gb494) (o := .cells #[.int .i64 1, .int .i64 1, .int .i64 0, .int .i64 0, .slice none 0 0] 31 (0, 0)) (mK BK494.out) hg (Kd.N_ne HO509.out BK494.out (by decide))) <| And.intro (z0 (Kd.N_afterv (ok := (fun k_ => nB k_ (.slice Ao7 t483.length co7) ∧ nB k_ v505 ∧ k_ ≠ gb494)) (by (with_reducible repeat (first | apply Kd.N_alloc | apply Kd.N_drewN | apply Kd.N_drew)); exact Kd.N_mono HO503.out (fun _ hk => ⟨⟨hk.2.2.1, ⟨hk.1, hk.2.2.2⟩⟩, hk.2.1⟩)) hg hat)) <| And.intro (z0 (Kd.N_afterv (ok := (fun k_ => k_ ≠ gb494)) q3_5 hg hat)) <| az (hb) <| z0 (ho)
                  clear HO_3 BK494 HO503 HO506 HB HO509
                  obtain ⟨HO_3, BK494, HO503, HO506, HB, HO512⟩ := n_
                  clear ho hb hg hat
                  refine hK.out _ _ q3_1 (fun hHeld => ?_)
                  clear hK K
                  refine norm_ (a' := ?_) ?_ ?_
                  rotate_left
                  ·show Act.put _ (some 54) _ = _
                   simp only [Act.put, List.setIfInBounds_toArray, List.set_cons_zero, List.set_cons_succ, i64_w, i32_w]
                   rfl
                  exact norm_ q3_2 (hJ0_2 (v508, v511) _ ⟨hHeld, (by (with_reducible repeat (first | apply Kd.N_alloc | apply Kd.N_drewN | apply Kd.N_drew)); exact Kd.N_mono HO503.out (fun _ hk => ⟨hk.1.2.1, ⟨hk.2, ⟨hk.1.1, hk.1.2.2⟩⟩⟩)), q3_5, (mN HO512.out), (by (with_reducible repeat (first | apply Kd.N_alloc | apply Kd.N_drewN | apply Kd.N_drew)); exact Kd.N_mono HO_3.out (fun _ hk => ⟨hk.1.1, ⟨hk.1.2.1, ⟨hk.2, hk.1.2.2⟩⟩⟩)), (mK BK494.out), (mB HB.out)⟩)
                 ·skip
                  refine Kd.N_lit_step k33 _ 33 ?hg (N' := 58) ?hd (xs := ([(⟨2, (⟨0, 0⟩ : S28), (⟨1, 1, (⟨0, 0⟩ : S28), ([] : List (S31))⟩ : S31), ([] : List (S33)), ([] : List (S33))⟩ : S33)] : List (S33))) (inner := [.int .i64 2, .int .i64 0, .int .i64 0, .int .i64 1, .int .i64 1, .int .i64 0, .int .i64 0, .slice none 0 0, .slice none 0 0, .slice none 0 0]) (ok := (fun k_ => nB k_ (.slice Ao7 t483.length co7) ∧ nB k_ (.slice Ao50 y501.length co50) ∧ nB k_ v505 ∧ nB k_ v508 ∧ k_ ≠ gb494)) (okp := (fun k_ => nB k_ (.slice Ao7 t483.length co7) ∧ nB k_ (.slice Ao50 y501.length co50) ∧ nB k_ v505 ∧ nB k_ v508 ∧ k_ ≠ gb494)) ?hr ?hp (fun _ hk => hk) ((show ∀ k_, w54.heap.size ≤ k_ → (fun k_ => nB k_ (.slice Ao7 t483.length co7) ∧ nB k_ (.slice Ao50 y501.length co50) ∧ nB k_ v505 ∧ nB k_ v508 ∧ k_ ≠ gb494) k_ from fun k_ hk => ⟨Kd.fresh' (Kd.N_lt (mN HO_3.out)) k_ hk, Kd.fresh' (Kd.N_lt (mN HO503.out)) k_ hk, Kd.fresh' (Kd.N_lt (mN HO506.out)) k_ hk, Kd.fresh' (Kd.N_lt (mN HO509.out)) k_ hk, fB BK494.out hk⟩) _ (Nat.le_refl _)) (Below.refl _ _) (Nat.le_refl _) (by simp) ?_; (case hd => rfl); (case hg => rfl); (case hr => first | (go_simp; done) | (go_simp; rfl)); (case hp => exact (Reps.c10 (show Kd.FK k33 _ _ (⟨2, (⟨0, 0⟩ : S28), (⟨1, 1, (⟨0, 0⟩ : S28), ([] : List (S31))⟩ : S31), ([] : List (S33)), ([] : List (S33))⟩ : S33) [.int .i64 2, .int .i64 0, .int .i64 0, .int .i64 1, .int .i64 1, .int .i64 0, .int .i64 0, .slice none 0 0, .slice none 0 0, .slice none 0 0] from (k33_mkF _ _ (⟨2, (⟨0, 0⟩ : S28), (⟨1, 1, (⟨0, 0⟩ : S28), ([] : List (S31))⟩ : S31), ([] : List (S33)), ([] : List (S33))⟩ : S33) (Nat.le_refl _) (Kd.F_nil _ _ _) (Nat.le_refl _) (Kd.F_nil _ _ _) (Nat.le_refl _) (Kd.F_nil _ _ _))) (Reps.none _ _)))
                  intro v514 w55 ho56 hb hg_ hnew_
                  clear hg_ hnew_
                  (first | rw [← Ny513.out] at ho56 | (simp only [Int.reduceToNat] at ho56; rw [← Ny513.out] at ho56))
                  have n_ := az (Kd.N_elder' (mN HO_3.out) (by first | exact Kd.N_base ho56 | exact Kd.R_base ho56) hb) <| az (Kd.N_elder' (mN HO503.out) (by first | exact Kd.N_base ho56 | exact Kd.R_base ho56) hb) <| az (Kd.N_elder' (mN HO506.out) (by first | exact Kd.N_base ho56 | exact Kd.R_base ho56) hb) <| az (Kd.N_elder' (mN HO509.out) (by first | exact Kd.N_base ho56 | exact Kd.R_base ho56) hb) <| az (Kd.N_lower ho56 (below_size (mB HB.out))) <| az (bB BK494.out hb) <| z0 (below_step (mB HB.out) hb)
                  clear HO_3 HO503 HO506 HO509 BK494 HB
                  obtain ⟨HO_3, HO503, HO506, HO509, HO515, BK494, HB⟩ := n_
                  clear hb ho56
                  obtain ⟨Ao57, co57, eo57⟩ := Kd.N_slice HO515.out
                  (first | subst eo57 | (injection eo57 with f1_ f2_ f3_; have f4_ := f1_.symm; have f5_ := f3_.symm; clear f1_ f2_ f3_; subst f4_; subst f5_))
                  refine hK.out _ _ q3_1 (fun hHeld => ?_)
                  clear hK K
                  refine norm_ (a' := ?_) ?_ ?_
                  rotate_left
                  ·show Act.put _ (some 58) _ = _
                   simp only [Act.put, List.setIfInBounds_toArray, List.set_cons_zero, List.set_cons_succ, i64_w, i32_w]
                   rfl
                  refine pure_ (i := 7) (N := some 59) (v := ?_) (a' := ?_) #[true, true, false, true, true, true, true, true, false, false, false] rfl rfl (any_of HT_.out (by kernel_rfl)) (fun _ _ _ h => h) (Or.inl ⟨by rfl, ?_⟩) ?_ ?_
                  rotate_left
                  ·intro w'
                   go_simp
                   with_reducible rfl
                  rotate_left
                  ·simp only [Act.put, List.setIfInBounds_toArray, List.set_cons_zero, List.set_cons_succ, i64_w, i32_w]
                   rfl
                  exact norm_ q3_2 (hJ0_6 (v508, .slice Ao57 y513.length co57) _ ⟨hHeld, (by (with_reducible repeat (first | apply Kd.N_alloc | apply Kd.N_drewN | apply Kd.N_drew)); exact Kd.N_mono HO503.out (fun _ hk => ⟨hk.1.1, ⟨hk.1.2.1, ⟨hk.2, ⟨hk.1.2.2.1, hk.1.2.2.2⟩⟩⟩⟩)), (by (with_reducible repeat (first | apply Kd.N_alloc | apply Kd.N_drewN | apply Kd.N_drew)); exact Kd.N_mono HO506.out (fun _ hk => ⟨hk.1.1, ⟨hk.2, hk.1.2⟩⟩)), (by (with_reducible repeat (first | apply Kd.N_alloc | apply Kd.N_drewN | apply Kd.N_drew)); exact Kd.N_mono HO509.out (fun _ hk => ⟨hk.1.1, ⟨hk.1.2.1, ⟨hk.2, ⟨hk.1.2.2.1, hk.1.2.2.2⟩⟩⟩⟩)), (by (with_reducible repeat (first | apply Kd.N_alloc | apply Kd.N_drewN | apply Kd.N_drew)); exact Kd.N_mono HO515.out (fun _ hk => ⟨hk.2.1, ⟨hk.2.2.1, ⟨hk.2.2.2.1, ⟨hk.1, hk.2.2.2.2⟩⟩⟩⟩)), (by (with_reducible repeat (first | apply Kd.N_alloc | apply Kd.N_drewN | apply Kd.N_drew)); exact Kd.N_mono HO_3.out (fun _ hk => ⟨hk.1.1, ⟨hk.1.2.1, ⟨hk.1.2.2.1, ⟨hk.2, hk.1.2.2.2⟩⟩⟩⟩)), (mK BK494.out), (mB HB.out)⟩)
               ·skip
                rintro ⟨v514, v517⟩ w57 ⟨hS_, h0_, h1_, h2_, h3_, h4_, h5_⟩
                have n0_ : Aside0 (Kd.N k33 33 w57 w.heap.size (fun k_ => nB k_ v505 ∧ nB k_ v517 ∧ nB k_ (.slice Ao7 t483.length co7) ∧ k_ ≠ gb494) (.slice Ao50 y501.length co50) y501) := ⟨h0_⟩
                have n1_ : Aside0 (Kd.N k33 33 w57 w.heap.size (fun k_ => nB k_ v517 ∧ k_ ≠ gb494) v505 y504) := ⟨h1_⟩
                have n2_ : Aside0 (Kd.N k33 33 w57 w.heap.size (fun k_ => nB k_ (.slice Ao50 y501.length co50) ∧ nB k_ v505 ∧ nB k_ (.slice Ao7 t483.length co7) ∧ k_ ≠ gb494) v517 y516) := ⟨h2_⟩
                have n3_ : Aside0 (Kd.N k33 33 w57 w.heap.size (fun k_ => nB k_ (.slice Ao50 y501.length co50) ∧ nB k_ v505 ∧ nB k_ v517 ∧ k_ ≠ gb494) (.slice Ao7 t483.length co7) t483) := ⟨h3_⟩
                have n4_ : Aside0 (w57.heap[gb494]? = some (.cells #[.int .i64 1, .int .i64 1, .int .i64 0, .int .i64 0, .slice none 0 0] 31 (0, 0))) := ⟨h4_⟩
                have n5_ : Aside0 (Below w.heap.size w w57) := ⟨h5_⟩
                clear HO_3 HO503 HO506 BK494 HB h0_ h1_ h2_ h3_ h4_ h5_
                have HO503 := n0_
                have HO506 := n1_
                have HO518 := n2_
                have HO_3 := n3_
                have BK494 := n4_
                have HB := n5_
                clear n0_ n1_ n2_ n3_ n4_ n5_
                have hHeld : w57.cell? ⟨gb494, 0, none⟩ = some (.int .i64 1) ∧ w57.cell? ⟨gb494, 1, none⟩ = some (.int .i64 1) ∧ w57.cell? ⟨gb494, 2, none⟩ = some (.int .i64 0) ∧ w57.cell? ⟨gb494, 3, none⟩ = some (.int .i64 0) ∧ w57.cell? ⟨gb494, 4, none⟩ = some (.slice none 0 0) := hS_
                refine norm_ (a' := ?_) ?_ ?_
                rotate_left
                ·simp only [putAll, Act.put, List.setIfInBounds_toArray, List.set_cons_zero, List.set_cons_succ]
                 rfl
                refine one_ (i := 0) (N := some 52) #[true, true, false, true, true, true, true, true, true, false, false] rfl rfl (one_of HT_.out (by kernel_rfl)) (by decide) (fun K hK => ?_)
                refine Kd.N_lit_step k33 _ 33 ?hg (N' := 52) ?hd (xs := ([] : List (S33))) (inner := []) (ok := (fun k_ => nB k_ (.slice Ao7 t483.length co7) ∧ nB k_ (.slice Ao50 y501.length co50) ∧ nB k_ v505 ∧ nB k_ v517 ∧ k_ ≠ gb494)) (okp := (fun k_ => nB k_ (.slice Ao7 t483.length co7) ∧ nB k_ (.slice Ao50 y501.length co50) ∧ nB k_ v505 ∧ nB k_ v517 ∧ k_ ≠ gb494)) ?hr ?hp (fun _ hk => hk) ((show ∀ k_, w57.heap.size ≤ k_ → (fun k_ => nB k_ (.slice Ao7 t483.length co7) ∧ nB k_ (.slice Ao50 y501.length co50) ∧ nB k_ v505 ∧ nB k_ v517 ∧ k_ ≠ gb494) k_ from fun k_ hk => ⟨Kd.fresh' (Kd.N_lt (mN HO_3.out)) k_ hk, Kd.fresh' (Kd.N_lt (mN HO503.out)) k_ hk, Kd.fresh' (Kd.N_lt (mN HO506.out)) k_ hk, Kd.fresh' (Kd.N_lt (mN HO518.out)) k_ hk, fB BK494.out hk⟩) _ (Nat.le_refl _)) (Below.refl _ _) (Nat.le_refl _) (by simp) ?_; (case hd => rfl); (case hg => rfl); (case hr => first | (go_simp; done) | (go_simp; rfl)); (case hp => exact (Reps.none _ _))
                intro v508 w58 ho59 hb hg_ hnew_
                clear hg_ hnew_
                (first | rw [← Ny507.out] at ho59 | (simp only [Int.reduceToNat] at ho59; rw [← Ny507.out] at ho59))
                have n_ := az (Kd.N_elder' (mN HO_3.out) (by first | exact Kd.N_base ho59 | exact Kd.R_base ho59) hb) <| az (Kd.N_elder' (mN HO503.out) (by first | exact Kd.N_base ho59 | exact Kd.R_base ho59) hb) <| az (Kd.N_elder' (mN HO506.out) (by first | exact Kd.N_base ho59 | exact Kd.R_base ho59) hb) <| az (Kd.N_elder' (mN HO518.out) (by first | exact Kd.N_base ho59 | exact Kd.R_base ho59) hb) <| az (Kd.N_lower ho59 (below_size (mB HB.out))) <| az (bB BK494.out hb) <| z0 (below_step (mB HB.out) hb)
                clear HO_3 HO503 HO506 HO518 BK494 HB
                obtain ⟨HO_3, HO503, HO506, HO518, HO509, BK494, HB⟩ := n_
                clear hb ho59
                refine hK.out _ _ q3_1 (fun hHeld => ?_)
                clear hK K
                refine norm_ (a' := ?_) ?_ ?_
                rotate_left
                ·show Act.put _ (some 52) _ = _
                 simp only [Act.put, List.setIfInBounds_toArray, List.set_cons_zero, List.set_cons_succ, i64_w, i32_w]
                 rfl
                exact norm_ q3_2 (hJ0_6_8 (v508, v514, v517) _ ⟨hHeld, (by (with_reducible repeat (first | apply Kd.N_alloc | apply Kd.N_drewN | apply Kd.N_drew)); exact Kd.N_mono HO503.out (fun _ hk => ⟨hk.1.1, ⟨hk.2, ⟨hk.1.2.1, ⟨hk.1.2.2.1, hk.1.2.2.2⟩⟩⟩⟩)), q3_4, (by (with_reducible repeat (first | apply Kd.N_alloc | apply Kd.N_drewN | apply Kd.N_drew)); exact Kd.N_mono HO509.out (fun _ hk => ⟨hk.2.1, ⟨hk.2.2.1, ⟨hk.2.2.2.1, ⟨hk.1, hk.2.2.2.2⟩⟩⟩⟩)), (by (with_reducible repeat (first | apply Kd.N_alloc | apply Kd.N_drewN | apply Kd.N_drew)); exact Kd.N_mono HO518.out (fun _ hk => ⟨hk.1.1, ⟨hk.1.2.1, ⟨hk.2, ⟨hk.1.2.2.1, hk.1.2.2.2⟩⟩⟩⟩)), q3_3, (mK BK494.out), (mB HB.out)⟩)
              ·skip
               rintro ⟨v508, v514⟩ w57 ⟨hS_, h0_, h1_, h2_, h3_, h4_, h5_, h6_⟩
               have n0_ : Aside0 (Kd.N k33 33 w57 w.heap.size (fun k_ => nB k_ v505 ∧ nB k_ v508 ∧ nB k_ v514 ∧ nB k_ (.slice Ao7 t483.length co7) ∧ k_ ≠ gb494) (.slice Ao50 y501.length co50) y501) := ⟨h0_⟩
               have n1_ : Aside0 (Kd.N k33 33 w57 w.heap.size (fun k_ => nB k_ v508 ∧ nB k_ v514 ∧ k_ ≠ gb494) v505 y504) := ⟨h1_⟩
               have n2_ : Aside0 (Kd.N k33 33 w57 w.heap.size (fun k_ => nB k_ (.slice Ao50 y501.length co50) ∧ nB k_ v505 ∧ nB k_ v514 ∧ nB k_ (.slice Ao7 t483.length co7) ∧ k_ ≠ gb494) v508 y507) := ⟨h2_⟩
               have n3_ : Aside0 (Kd.N k33 33 w57 w.heap.size (fun k_ => nB k_ (.slice Ao50 y501.length co50) ∧ nB k_ v505 ∧ nB k_ v508 ∧ nB k_ (.slice Ao7 t483.length co7) ∧ k_ ≠ gb494) v514 y513) := ⟨h3_⟩
               have n4_ : Aside0 (Kd.N k33 33 w57 w.heap.size (fun k_ => nB k_ (.slice Ao50 y501.length co50) ∧ nB k_ v505 ∧ nB k_ v508 ∧ nB k_ v514 ∧ k_ ≠ gb494) (.slice Ao7 t483.length co7) t483) := ⟨h4_⟩
               have n5_ : Aside0 (w57.heap[gb494]? = some (.cells #[.int .i64 1, .int .i64 1, .int .i64 0, .int .i64 0, .slice none 0 0] 31 (0, 0))) := ⟨h5_⟩
               have n6_ : Aside0 (Below w.heap.size w w57) := ⟨h6_⟩
               clear HO_3 HO503 HO506 BK494 HB h0_ h1_ h2_ h3_ h4_ h5_ h6_
               have HO503 := n0_
               have HO506 := n1_
               have HO509 := n2_
               have HO515 := n3_
               have HO_3 := n4_
               have BK494 := n5_
               have HB := n6_
               clear n0_ n1_ n2_ n3_ n4_ n5_ n6_
               have hHeld : w57.cell? ⟨gb494, 0, none⟩ = some (.int .i64 1) ∧ w57.cell? ⟨gb494, 1, none⟩ = some (.int .i64 1) ∧ w57.cell? ⟨gb494, 2, none⟩ = some (.int .i64 0) ∧ w57.cell? ⟨gb494, 3, none⟩ = some (.int .i64 0) ∧ w57.cell? ⟨gb494, 4, none⟩ = some (.slice none 0 0) := hS_
               obtain ⟨Ao58, co58, eo58⟩ := Kd.N_slice HO515.out
               (first | subst eo58 | (injection eo58 with f1_ f2_ f3_; have f4_ := f1_.symm; have f5_ := f3_.symm; clear f1_ f2_ f3_; subst f4_; subst f5_))
               refine norm_ (a' := ?_) ?_ ?_
               rotate_left
               ·simp only [putAll, Act.put, List.setIfInBounds_toArray, List.set_cons_zero, List.set_cons_succ]
                rfl
               refine two_ (i := 2) (j := 8) (Ni := some 54) (Nj := some 60) #[true, true, true, true, true, true, true, true, false, false, false] #[true, true, false, true, true, true, true, true, true, false, false] rfl rfl rfl rfl (two_of HT_.out (by kernel_rfl)) (by decide) (by decide) (fun K hK => ?_) (fun K hK => ?_)
               ·skip
                refine Kd.N_append_rows_step k33 (w0 := w) w.heap.size (by rfl) (.tmp 52) (.tmp 53) 23 33 (.agg #[(.int .i64 0), (.int .i64 0), (.int .i64 0), (.int .i64 0), (.int .i64 0), (.int .i64 0), (.int .i64 0), (.slice none 0 0), (.slice none 0 0), (.slice none 0 0)]) 128 rfl Tryz.underlying23 info33 rfl (by decide) (by omega) v508 y507 t483 _ _ _ (fun k_ => nB k_ (.slice Ao50 y501.length co50) ∧ nB k_ v505 ∧ nB k_ (.slice Ao58 y513.length co58) ∧ k_ ≠ gb494) (fun k_ => ((fun k_ => nB k_ (.slice Ao50 y501.length co50) ∧ nB k_ v505 ∧ nB k_ (.slice Ao58 y513.length co58) ∧ k_ ≠ gb494)) k_ ∧ nB k_ v508) rfl rfl ?aO ?aR (fun _ hk => hk) ?aF ?aB ?aS ?aL ?_
                (case aR => exact (by skip; exact Kd.N_F (Kd.N_mono (ok' := (fun k_ => ((fun k_ => nB k_ (.slice Ao50 y501.length co50) ∧ nB k_ v505 ∧ nB k_ (.slice Ao58 y513.length co58) ∧ k_ ≠ gb494)) k_ ∧ nB k_ v508)) (HO_3.out) (fun k_ hk => ⟨⟨hk.1, ⟨hk.2.1, ⟨hk.2.2.2.1, hk.2.2.2.2⟩⟩⟩, hk.2.2.1⟩))))
                (case aB => exact (mB HB.out))
                (case aF => exact (fun k_ hk => ⟨Kd.fresh' (Kd.N_lt (mN HO503.out)) k_ hk, Kd.fresh' (Kd.N_lt (mN HO506.out)) k_ hk, Kd.fresh' (Kd.N_lt (mN HO515.out)) k_ hk, fB BK494.out hk⟩))
                (case aO => exact (by (with_reducible repeat (first | apply Kd.N_alloc | apply Kd.N_drewN | apply Kd.N_drew)); exact Kd.N_mono HO509.out (fun _ hk => ⟨hk.1, ⟨hk.2.1, ⟨hk.2.2.1, hk.2.2.2.2⟩⟩⟩)))
                (case aS => exact (below_size (mB HB.out)))
                (case aL => have := LMc36.out; omega)
                intro v511 w59 ho hb hg hat
                rw [← Ny510.out] at ho
                have n_ := And.intro (z0 (Kd.N_afterv (ok := (fun k_ => nB k_ (.slice Ao50 y501.length co50) ∧ nB k_ v505 ∧ nB k_ (.slice Ao58 y513.length co58) ∧ k_ ≠ gb494)) q3_7 hg hat)) <| az (blk_grown (g := gb494) (o := .cells #[.int .i64 1, .int .i64 1, .int .i64 0, .int .i64 0, .slice none 0 0] 31 (0, 0)) (mK BK494.out) hg (Kd.N_ne HO509.out BK494.out (by decide))) <| And.intro (z0 (Kd.N_afterv (ok := (fun k_ => nB k_ (.slice Ao7 t483.length co7) ∧ nB k_ v505 ∧ nB k_ (.slice Ao58 y513.length co58) ∧ k_ ≠ gb494)) q3_6 hg hat)) <| And.intro (z0 (Kd.N_afterv (ok := (fun k_ => nB k_ (.slice Ao58 y513.length co58) ∧ k_ ≠ gb494)) (by (with_reducible repeat (first | apply Kd.N_alloc | apply Kd.N_drewN | apply Kd.N_drew)); exact Kd.N_mono HO506.out (fun _ hk => ⟨⟨hk.2.1, hk.2.2⟩, hk.1⟩)) hg hat)) <| And.intro (z0 (Kd.N_afterv (ok := (fun k_ => nB k_ (.slice Ao7 t483.length co7) ∧ nB k_ (.slice Ao50 y501.length co50) ∧ nB k_ v505 ∧ k_ ≠ gb494)) (by (with_reducible repeat (first | apply Kd.N_alloc | apply Kd.N_drewN | apply Kd.N_drew)); exact Kd.N_mono HO515.out (fun _ hk => ⟨⟨hk.2.2.2.1, ⟨hk.1, ⟨hk.2.1, hk.2.2.2.2⟩⟩⟩, hk.2.2.1⟩)) hg hat)) <| az (hb) <| z0 (ho)
                clear HO_3 BK494 HO503 HO506 HO515 HB HO509
                obtain ⟨HO_3, BK494, HO503, HO506, HO515, HB, HO512⟩ := n_
                clear ho hb hg hat
                refine hK.out _ _ q3_1 (fun hHeld => ?_)
                clear hK K
                refine norm_ (a' := ?_) ?_ ?_
                rotate_left
                ·show Act.put _ (some 54) _ = _
                 simp only [Act.put, List.setIfInBounds_toArray, List.set_cons_zero, List.set_cons_succ, i64_w, i32_w]
                 rfl
                exact norm_ q3_2 (hJ0_2_6 (v508, v511, .slice Ao58 y513.length co58) _ ⟨hHeld, (by (with_reducible repeat (first | apply Kd.N_alloc | apply Kd.N_drewN | apply Kd.N_drew)); exact Kd.N_mono HO503.out (fun _ hk => ⟨hk.1.2.1, ⟨hk.2, ⟨hk.1.2.2.1, ⟨hk.1.1, hk.1.2.2.2⟩⟩⟩⟩)), q3_4, (mN HO512.out), (by (with_reducible repeat (first | apply Kd.N_alloc | apply Kd.N_drewN | apply Kd.N_drew)); exact Kd.N_mono HO515.out (fun _ hk => ⟨hk.1.2.1, ⟨hk.1.2.2.1, ⟨hk.2, ⟨hk.1.1, hk.1.2.2.2⟩⟩⟩⟩)), q3_3, (mK BK494.out), (mB HB.out)⟩)
               ·skip
                refine Kd.N_lit_step k33 _ 33 ?hg (N' := 60) ?hd (xs := ([(⟨3, (⟨0, 0⟩ : S28), (⟨1, 1, (⟨0, 0⟩ : S28), ([] : List (S31))⟩ : S31), ([] : List (S33)), y513⟩ : S33)] : List (S33))) (inner := [.int .i64 3, .int .i64 0, .int .i64 0, .int .i64 1, .int .i64 1, .int .i64 0, .int .i64 0, .slice none 0 0, .slice none 0 0, .slice Ao58 y513.length co58]) (ok := (fun k_ => nB k_ (.slice Ao7 t483.length co7) ∧ nB k_ (.slice Ao50 y501.length co50) ∧ nB k_ v505 ∧ nB k_ v508 ∧ k_ ≠ gb494)) (okp := (fun k_ => nB k_ (.slice Ao7 t483.length co7) ∧ nB k_ (.slice Ao50 y501.length co50) ∧ nB k_ v505 ∧ nB k_ v508 ∧ k_ ≠ gb494)) ?hr ?hp (fun _ hk => hk) ((show ∀ k_, w57.heap.size ≤ k_ → (fun k_ => nB k_ (.slice Ao7 t483.length co7) ∧ nB k_ (.slice Ao50 y501.length co50) ∧ nB k_ v505 ∧ nB k_ v508 ∧ k_ ≠ gb494) k_ from fun k_ hk => ⟨Kd.fresh' (Kd.N_lt (mN HO_3.out)) k_ hk, Kd.fresh' (Kd.N_lt (mN HO503.out)) k_ hk, Kd.fresh' (Kd.N_lt (mN HO506.out)) k_ hk, Kd.fresh' (Kd.N_lt (mN HO509.out)) k_ hk, fB BK494.out hk⟩) _ (Nat.le_refl _)) (Below.refl _ _) (Nat.le_refl _) (by simp) ?_; (case hd => rfl); (case hg => rfl); (case hr => first | (go_simp; done) | (go_simp; rfl)); (case hp => exact (Reps.c10 (show Kd.FK k33 _ _ (⟨3, (⟨0, 0⟩ : S28), (⟨1, 1, (⟨0, 0⟩ : S28), ([] : List (S31))⟩ : S31), ([] : List (S33)), y513⟩ : S33) [.int .i64 3, .int .i64 0, .int .i64 0, .int .i64 1, .int .i64 1, .int .i64 0, .int .i64 0, .slice none 0 0, .slice none 0 0, .slice Ao58 y513.length co58] from (k33_mkF _ _ (⟨3, (⟨0, 0⟩ : S28), (⟨1, 1, (⟨0, 0⟩ : S28), ([] : List (S31))⟩ : S31), ([] : List (S33)), y513⟩ : S33) (Nat.le_refl _) (Kd.F_nil _ _ _) (Nat.le_refl _) (Kd.F_nil _ _ _) (Kd.N_reads' (Kd.N_mono (ok' := (fun k_ => nB k_ (.slice Ao7 t483.length co7) ∧ nB k_ (.slice Ao50 y501.length co50) ∧ nB k_ v505 ∧ nB k_ v508 ∧ k_ ≠ gb494)) (HO515.out) (fun k_ hk => ⟨hk.2.2.2.1, ⟨hk.1, ⟨hk.2.1, ⟨hk.2.2.1, hk.2.2.2.2⟩⟩⟩⟩))).2.1 (Kd.N_F (Kd.N_mono (ok' := (fun k_ => nB k_ (.slice Ao7 t483.length co7) ∧ nB k_ (.slice Ao50 y501.length co50) ∧ nB k_ v505 ∧ nB k_ v508 ∧ k_ ≠ gb494)) (HO515.out) (fun k_ hk => ⟨hk.2.2.2.1, ⟨hk.1, ⟨hk.2.1, ⟨hk.2.2.1, hk.2.2.2.2⟩⟩⟩⟩))))) (Reps.none _ _)))
                intro v517 w59 ho60 hb hg_ hnew_
                clear hg_ hnew_
                (first | rw [← Ny516.out] at ho60 | (simp only [Int.reduceToNat] at ho60; rw [← Ny516.out] at ho60))
                have n_ := az (Kd.N_elder' (mN HO_3.out) (by first | exact Kd.N_base ho60 | exact Kd.R_base ho60) hb) <| az (Kd.N_elder' (mN HO503.out) (by first | exact Kd.N_base ho60 | exact Kd.R_base ho60) hb) <| az (Kd.N_elder' (mN HO506.out) (by first | exact Kd.N_base ho60 | exact Kd.R_base ho60) hb) <| az (Kd.N_elder' (mN HO509.out) (by first | exact Kd.N_base ho60 | exact Kd.R_base ho60) hb) <| az (Kd.N_lower ho60 (below_size (mB HB.out))) <| az (bB BK494.out hb) <| z0 (below_step (mB HB.out) hb)
                clear HO_3 HO503 HO506 HO509 BK494 HB HO515
                obtain ⟨HO_3, HO503, HO506, HO509, HO518, BK494, HB⟩ := n_
                clear hb ho60
                refine hK.out _ _ q3_1 (fun hHeld => ?_)
                clear hK K
                refine norm_ (a' := ?_) ?_ ?_
                rotate_left
                ·show Act.put _ (some 60) _ = _
                 simp only [Act.put, List.setIfInBounds_toArray, List.set_cons_zero, List.set_cons_succ, i64_w, i32_w]
                 rfl
                exact norm_ q3_2 (hJ0_6_8 (v508, .slice Ao58 y513.length co58, v517) _ ⟨hHeld, (by (with_reducible repeat (first | apply Kd.N_alloc | apply Kd.N_drewN | apply Kd.N_drew)); exact Kd.N_mono HO503.out (fun _ hk => ⟨hk.1.1, ⟨hk.1.2.1, ⟨hk.2, ⟨hk.1.2.2.2.1, hk.1.2.2.2.2⟩⟩⟩⟩)), (by (with_reducible repeat (first | apply Kd.N_alloc | apply Kd.N_drewN | apply Kd.N_drew)); exact Kd.N_mono HO506.out (fun _ hk => ⟨hk.1.1, ⟨hk.2, hk.1.2.2⟩⟩)), (by (with_reducible repeat (first | apply Kd.N_alloc | apply Kd.N_drewN | apply Kd.N_drew)); exact Kd.N_mono HO509.out (fun _ hk => ⟨hk.1.1, ⟨hk.1.2.1, ⟨hk.2, ⟨hk.1.2.2.2.1, hk.1.2.2.2.2⟩⟩⟩⟩)), (by (with_reducible repeat (first | apply Kd.N_alloc | apply Kd.N_drewN | apply Kd.N_drew)); exact Kd.N_mono HO518.out (fun _ hk => ⟨hk.2.1, ⟨hk.2.2.1, ⟨hk.2.2.2.1, ⟨hk.1, hk.2.2.2.2⟩⟩⟩⟩)), (by (with_reducible repeat (first | apply Kd.N_alloc | apply Kd.N_drewN | apply Kd.N_drew)); exact Kd.N_mono HO_3.out (fun _ hk => ⟨hk.1.1, ⟨hk.1.2.1, ⟨hk.1.2.2.1, ⟨hk.2, hk.1.2.2.2.2⟩⟩⟩⟩)), (mK BK494.out), (mB HB.out)⟩)
             ·skip
              rintro ⟨v508, v511⟩ w55 ⟨hS_, h0_, h1_, h2_, h3_, h4_, h5_⟩
              have n0_ : Aside0 (Kd.N k33 33 w55 w.heap.size (fun k_ => nB k_ v505 ∧ nB k_ v511 ∧ nB k_ (.slice Ao7 t483.length co7) ∧ k_ ≠ gb494) (.slice Ao50 y501.length co50) y501) := ⟨h0_⟩
              have n1_ : Aside0 (Kd.N k33 33 w55 w.heap.size (fun k_ => nB k_ v511 ∧ k_ ≠ gb494) v505 y504) := ⟨h1_⟩
              have n2_ : Aside0 (Kd.N k33 33 w55 w.heap.size (fun k_ => nB k_ (.slice Ao50 y501.length co50) ∧ nB k_ v505 ∧ k_ ≠ gb494) v511 y510) := ⟨h2_⟩
              have n3_ : Aside0 (Kd.N k33 33 w55 w.heap.size (fun k_ => nB k_ (.slice Ao50 y501.length co50) ∧ nB k_ v505 ∧ nB k_ v511 ∧ k_ ≠ gb494) (.slice Ao7 t483.length co7) t483) := ⟨h3_⟩
              have n4_ : Aside0 (w55.heap[gb494]? = some (.cells #[.int .i64 1, .int .i64 1, .int .i64 0, .int .i64 0, .slice none 0 0] 31 (0, 0))) := ⟨h4_⟩
              have n5_ : Aside0 (Below w.heap.size w w55) := ⟨h5_⟩
              clear HO_3 HO503 HO506 BK494 HB h0_ h1_ h2_ h3_ h4_ h5_
              have HO503 := n0_
              have HO506 := n1_
              have HO512 := n2_
              have HO_3 := n3_
              have BK494 := n4_
              have HB := n5_
              clear n0_ n1_ n2_ n3_ n4_ n5_
              have hHeld : w55.cell? ⟨gb494, 0, none⟩ = some (.int .i64 1) ∧ w55.cell? ⟨gb494, 1, none⟩ = some (.int .i64 1) ∧ w55.cell? ⟨gb494, 2, none⟩ = some (.int .i64 0) ∧ w55.cell? ⟨gb494, 3, none⟩ = some (.int .i64 0) ∧ w55.cell? ⟨gb494, 4, none⟩ = some (.slice none 0 0) := hS_
              refine norm_ (a' := ?_) ?_ ?_
              rotate_left
              ·simp only [putAll, Act.put, List.setIfInBounds_toArray, List.set_cons_zero, List.set_cons_succ]
               rfl
              refine one_ (i := 6) (N := some 58) #[true, true, true, true, true, true, true, false, false, false, false] rfl rfl (one_of HT_.out (by kernel_rfl)) (by decide) (fun K hK => ?_)
              refine Kd.N_lit_step k33 _ 33 ?hg (N' := 58) ?hd (xs := ([(⟨2, (⟨0, 0⟩ : S28), (⟨1, 1, (⟨0, 0⟩ : S28), ([] : List (S31))⟩ : S31), ([] : List (S33)), ([] : List (S33))⟩ : S33)] : List (S33))) (inner := [.int .i64 2, .int .i64 0, .int .i64 0, .int .i64 1, .int .i64 1, .int .i64 0, .int .i64 0, .slice none 0 0, .slice none 0 0, .slice none 0 0]) (ok := (fun k_ => nB k_ (.slice Ao7 t483.length co7) ∧ nB k_ (.slice Ao50 y501.length co50) ∧ nB k_ v505 ∧ nB k_ v511 ∧ k_ ≠ gb494)) (okp := (fun k_ => nB k_ (.slice Ao7 t483.length co7) ∧ nB k_ (.slice Ao50 y501.length co50) ∧ nB k_ v505 ∧ nB k_ v511 ∧ k_ ≠ gb494)) ?hr ?hp (fun _ hk => hk) ((show ∀ k_, w55.heap.size ≤ k_ → (fun k_ => nB k_ (.slice Ao7 t483.length co7) ∧ nB k_ (.slice Ao50 y501.length co50) ∧ nB k_ v505 ∧ nB k_ v511 ∧ k_ ≠ gb494) k_ from fun k_ hk => ⟨Kd.fresh' (Kd.N_lt (mN HO_3.out)) k_ hk, Kd.fresh' (Kd.N_lt (mN HO503.out)) k_ hk, Kd.fresh' (Kd.N_lt (mN HO506.out)) k_ hk, Kd.fresh' (Kd.N_lt (mN HO512.out)) k_ hk, fB BK494.out hk⟩) _ (Nat.le_refl _)) (Below.refl _ _) (Nat.le_refl _) (by simp) ?_; (case hd => rfl); (case hg => rfl); (case hr => first | (go_simp; done) | (go_simp; rfl)); (case hp => exact (Reps.c10 (show Kd.FK k33 _ _ (⟨2, (⟨0, 0⟩ : S28), (⟨1, 1, (⟨0, 0⟩ : S28), ([] : List (S31))⟩ : S31), ([] : List (S33)), ([] : List (S33))⟩ : S33) [.int .i64 2, .int .i64 0, .int .i64 0, .int .i64 1, .int .i64 1, .int .i64 0, .int .i64 0, .slice none 0 0, .slice none 0 0, .slice none 0 0] from (k33_mkF _ _ (⟨2, (⟨0, 0⟩ : S28), (⟨1, 1, (⟨0, 0⟩ : S28), ([] : List (S31))⟩ : S31), ([] : List (S33)), ([] : List (S33))⟩ : S33) (Nat.le_refl _) (Kd.F_nil _ _ _) (Nat.le_refl _) (Kd.F_nil _ _ _) (Nat.le_refl _) (Kd.F_nil _ _ _))) (Reps.none _ _)))
              intro v514 w56 ho57 hb hg_ hnew_
              clear hg_ hnew_
              (first | rw [← Ny513.out] at ho57 | (simp only [Int.reduceToNat] at ho57; rw [← Ny513.out] at ho57))
              have n_ := az (Kd.N_elder' (mN HO_3.out) (by first | exact Kd.N_base ho57 | exact Kd.R_base ho57) hb) <| az (Kd.N_elder' (mN HO503.out) (by first | exact Kd.N_base ho57 | exact Kd.R_base ho57) hb) <| az (Kd.N_elder' (mN HO506.out) (by first | exact Kd.N_base ho57 | exact Kd.R_base ho57) hb) <| az (Kd.N_elder' (mN HO512.out) (by first | exact Kd.N_base ho57 | exact Kd.R_base ho57) hb) <| az (Kd.N_lower ho57 (below_size (mB HB.out))) <| az (bB BK494.out hb) <| z0 (below_step (mB HB.out) hb)
              clear HO_3 HO503 HO506 HO512 BK494 HB
              obtain ⟨HO_3, HO503, HO506, HO512, HO515, BK494, HB⟩ := n_
              clear hb ho57
              obtain ⟨Ao58, co58, eo58⟩ := Kd.N_slice HO515.out
              (first | subst eo58 | (injection eo58 with f1_ f2_ f3_; have f4_ := f1_.symm; have f5_ := f3_.symm; clear f1_ f2_ f3_; subst f4_; subst f5_))
              refine hK.out _ _ q3_1 (fun hHeld => ?_)
              clear hK K
              refine norm_ (a' := ?_) ?_ ?_
              rotate_left
              ·show Act.put _ (some 58) _ = _
               simp only [Act.put, List.setIfInBounds_toArray, List.set_cons_zero, List.set_cons_succ, i64_w, i32_w]
               rfl
              refine pure_ (i := 7) (N := some 59) (v := ?_) (a' := ?_) #[true, true, true, true, true, true, true, true, false, false, false] rfl rfl (any_of HT_.out (by kernel_rfl)) (fun _ _ _ h => h) (Or.inl ⟨by rfl, ?_⟩) ?_ ?_
              rotate_left
              ·intro w'
               go_simp
               with_reducible rfl
              rotate_left
              ·simp only [Act.put, List.setIfInBounds_toArray, List.set_cons_zero, List.set_cons_succ, i64_w, i32_w]
               rfl
              exact norm_ q3_2 (hJ0_2_6 (v508, v511, .slice Ao58 y513.length co58) _ ⟨hHeld, (by (with_reducible repeat (first | apply Kd.N_alloc | apply Kd.N_drewN | apply Kd.N_drew)); exact Kd.N_mono HO503.out (fun _ hk => ⟨hk.1.1, ⟨hk.1.2.1, ⟨hk.2, ⟨hk.1.2.2.1, hk.1.2.2.2⟩⟩⟩⟩)), (by (with_reducible repeat (first | apply Kd.N_alloc | apply Kd.N_drewN | apply Kd.N_drew)); exact Kd.N_mono HO506.out (fun _ hk => ⟨hk.1.1, ⟨hk.2, hk.1.2⟩⟩)), (by (with_reducible repeat (first | apply Kd.N_alloc | apply Kd.N_drewN | apply Kd.N_drew)); exact Kd.N_mono HO512.out (fun _ hk => ⟨hk.1.1, ⟨hk.1.2.1, ⟨hk.2, hk.1.2.2⟩⟩⟩)), (by (with_reducible repeat (first | apply Kd.N_alloc | apply Kd.N_drewN | apply Kd.N_drew)); exact Kd.N_mono HO515.out (fun _ hk => ⟨hk.2.1, ⟨hk.2.2.1, ⟨hk.2.2.2.1, ⟨hk.1, hk.2.2.2.2⟩⟩⟩⟩)), (by (with_reducible repeat (first | apply Kd.N_alloc | apply Kd.N_drewN | apply Kd.N_drew)); exact Kd.N_mono HO_3.out (fun _ hk => ⟨hk.1.1, ⟨hk.1.2.1, ⟨hk.1.2.2.1, ⟨hk.2, hk.1.2.2.2⟩⟩⟩⟩)), (mK BK494.out), (mB HB.out)⟩)
            ·skip
             rintro ⟨v508, v514, v517⟩ w59 ⟨hS_, h0_, h1_, h2_, h3_, h4_, h5_, h6_⟩
             have n0_ : Aside0 (Kd.N k33 33 w59 w.heap.size (fun k_ => nB k_ v505 ∧ nB k_ v508 ∧ nB k_ v517 ∧ nB k_ (.slice Ao7 t483.length co7) ∧ k_ ≠ gb494) (.slice Ao50 y501.length co50) y501) := ⟨h0_⟩
             have n1_ : Aside0 (Kd.N k33 33 w59 w.heap.size (fun k_ => nB k_ v508 ∧ nB k_ v517 ∧ k_ ≠ gb494) v505 y504) := ⟨h1_⟩
             have n2_ : Aside0 (Kd.N k33 33 w59 w.heap.size (fun k_ => nB k_ (.slice Ao50 y501.length co50) ∧ nB k_ v505 ∧ nB k_ v517 ∧ nB k_ (.slice Ao7 t483.length co7) ∧ k_ ≠ gb494) v508 y507) := ⟨h2_⟩
             have n3_ : Aside0 (Kd.N k33 33 w59 w.heap.size (fun k_ => nB k_ (.slice Ao50 y501.length co50) ∧ nB k_ v505 ∧ nB k_ v508 ∧ nB k_ (.slice Ao7 t483.length co7) ∧ k_ ≠ gb494) v517 y516) := ⟨h3_⟩
             have n4_ : Aside0 (Kd.N k33 33 w59 w.heap.size (fun k_ => nB k_ (.slice Ao50 y501.length co50) ∧ nB k_ v505 ∧ nB k_ v508 ∧ nB k_ v517 ∧ k_ ≠ gb494) (.slice Ao7 t483.length co7) t483) := ⟨h4_⟩
             have n5_ : Aside0 (w59.heap[gb494]? = some (.cells #[.int .i64 1, .int .i64 1, .int .i64 0, .int .i64 0, .slice none 0 0] 31 (0, 0))) := ⟨h5_⟩
             have n6_ : Aside0 (Below w.heap.size w w59) := ⟨h6_⟩
             clear HO_3 HO503 HO506 BK494 HB h0_ h1_ h2_ h3_ h4_ h5_ h6_
             have HO503 := n0_
             have HO506 := n1_
             have HO509 := n2_
             have HO518 := n3_
             have HO_3 := n4_
             have BK494 := n5_
             have HB := n6_
             clear n0_ n1_ n2_ n3_ n4_ n5_ n6_
             have hHeld : w59.cell? ⟨gb494, 0, none⟩ = some (.int .i64 1) ∧ w59.cell? ⟨gb494, 1, none⟩ = some (.int .i64 1) ∧ w59.cell? ⟨gb494, 2, none⟩ = some (.int .i64 0) ∧ w59.cell? ⟨gb494, 3, none⟩ = some (.int .i64 0) ∧ w59.cell? ⟨gb494, 4, none⟩ = some (.slice none 0 0) := hS_
             refine norm_ (a' := ?_) ?_ ?_
             rotate_left
             ·simp only [putAll, Act.put, List.setIfInBounds_toArray, List.set_cons_zero, List.set_cons_succ]
              rfl
             refine one_ (i := 2) (N := some 54) #[true, true, true, true, true, true, true, true, true, false, false] rfl rfl (one_of HT_.out (by kernel_rfl)) (by decide) (fun K hK => ?_)
             refine Kd.N_append_rows_step k33 (w0 := w) w.heap.size (by rfl) (.tmp 52) (.tmp 53) 23 33 (.agg #[(.int .i64 0), (.int .i64 0), (.int .i64 0), (.int .i64 0), (.int .i64 0), (.int .i64 0), (.int .i64 0), (.slice none 0 0), (.slice none 0 0), (.slice none 0 0)]) 128 rfl Tryz.underlying23 info33 rfl (by decide) (by omega) v508 y507 t483 _ _ _ (fun k_ => nB k_ (.slice Ao50 y501.length co50) ∧ nB k_ v505 ∧ nB k_ v517 ∧ k_ ≠ gb494) (fun k_ => ((fun k_ => nB k_ (.slice Ao50 y501.length co50) ∧ nB k_ v505 ∧ nB k_ v517 ∧ k_ ≠ gb494)) k_ ∧ nB k_ v508) rfl rfl ?aO ?aR (fun _ hk => hk) ?aF ?aB ?aS ?aL ?_
             (case aR => exact (by skip; exact Kd.N_F (Kd.N_mono (ok' := (fun k_ => ((fun k_ => nB k_ (.slice Ao50 y501.length co50) ∧ nB k_ v505 ∧ nB k_ v517 ∧ k_ ≠ gb494)) k_ ∧ nB k_ v508)) (HO_3.out) (fun k_ hk => ⟨⟨hk.1, ⟨hk.2.1, ⟨hk.2.2.2.1, hk.2.2.2.2⟩⟩⟩, hk.2.2.1⟩))))
             (case aB => exact (mB HB.out))
             (case aF => exact (fun k_ hk => ⟨Kd.fresh' (Kd.N_lt (mN HO503.out)) k_ hk, Kd.fresh' (Kd.N_lt (mN HO506.out)) k_ hk, Kd.fresh' (Kd.N_lt (mN HO518.out)) k_ hk, fB BK494.out hk⟩))
             (case aO => exact (by (with_reducible repeat (first | apply Kd.N_alloc | apply Kd.N_drewN | apply Kd.N_drew)); exact Kd.N_mono HO509.out (fun _ hk => ⟨hk.1, ⟨hk.2.1, ⟨hk.2.2.1, hk.2.2.2.2⟩⟩⟩)))
             (case aS => exact (below_size (mB HB.out)))
             (case aL => have := LMc36.out; omega)
             intro v511 w60 ho hb hg hat
             rw [← Ny510.out] at ho
             have n_ := And.intro (z0 (Kd.N_afterv (ok := (fun k_ => nB k_ (.slice Ao50 y501.length co50) ∧ nB k_ v505 ∧ nB k_ v517 ∧ k_ ≠ gb494)) q3_7 hg hat)) <| az (blk_grown (g := gb494) (o := .cells #[.int .i64 1, .int .i64 1, .int .i64 0, .int .i64 0, .slice none 0 0] 31 (0, 0)) (mK BK494.out) hg (Kd.N_ne HO509.out BK494.out (by decide))) <| And.intro (z0 (Kd.N_afterv (ok := (fun k_ => nB k_ (.slice Ao7 t483.length co7) ∧ nB k_ v505 ∧ nB k_ v517 ∧ k_ ≠ gb494)) q3_6 hg hat)) <| And.intro (z0 (Kd.N_afterv (ok := (fun k_ => nB k_ v517 ∧ k_ ≠ gb494)) (by (with_reducible repeat (first | apply Kd.N_alloc | apply Kd.N_drewN | apply Kd.N_drew)); exact Kd.N_mono HO506.out (fun _ hk => ⟨⟨hk.2.1, hk.2.2⟩, hk.1⟩)) hg hat)) <| And.intro (z0 (Kd.N_afterv (ok := (fun k_ => nB k_ (.slice Ao7 t483.length co7) ∧ nB k_ (.slice Ao50 y501.length co50) ∧ nB k_ v505 ∧ k_ ≠ gb494)) (by (with_reducible repeat (first | apply Kd.N_alloc | apply Kd.N_drewN | apply Kd.N_drew)); exact Kd.N_mono HO518.out (fun _ hk => ⟨⟨hk.2.2.2.1, ⟨hk.1, ⟨hk.2.1, hk.2.2.2.2⟩⟩⟩, hk.2.2.1⟩)) hg hat)) <| az (hb) <| z0 (ho)
             clear HO_3 BK494 HO503 HO506 HO518 HB HO509
             obtain ⟨HO_3, BK494, HO503, HO506, HO518, HB, HO512⟩ := n_
             clear ho hb hg hat
             refine hK.out _ _ q3_1 (fun hHeld => ?_)
             clear hK K
             refine norm_ (a' := ?_) ?_ ?_
             rotate_left
             ·show Act.put _ (some 54) _ = _
              simp only [Act.put, List.setIfInBounds_toArray, List.set_cons_zero, List.set_cons_succ, i64_w, i32_w]
              rfl
             exact norm_ q3_2 (hJ0_2_6_8 (v508, v511, v514, v517) _ ⟨hHeld, (by (with_reducible repeat (first | apply Kd.N_alloc | apply Kd.N_drewN | apply Kd.N_drew)); exact Kd.N_mono HO503.out (fun _ hk => ⟨hk.1.2.1, ⟨hk.2, ⟨hk.1.2.2.1, ⟨hk.1.1, hk.1.2.2.2⟩⟩⟩⟩)), q3_4, (mN HO512.out), (by (with_reducible repeat (first | apply Kd.N_alloc | apply Kd.N_drewN | apply Kd.N_drew)); exact Kd.N_mono HO518.out (fun _ hk => ⟨hk.1.2.1, ⟨hk.1.2.2.1, ⟨hk.2, ⟨hk.1.1, hk.1.2.2.2⟩⟩⟩⟩)), q3_3, (mK BK494.out), (mB HB.out)⟩)
           ·skip
            rintro ⟨v508, v511, v514⟩ w58 ⟨hS_, h0_, h1_, h2_, h3_, h4_, h5_, h6_⟩
            have n0_ : Aside0 (Kd.N k33 33 w58 w.heap.size (fun k_ => nB k_ v505 ∧ nB k_ v511 ∧ nB k_ v514 ∧ nB k_ (.slice Ao7 t483.length co7) ∧ k_ ≠ gb494) (.slice Ao50 y501.length co50) y501) := ⟨h0_⟩
            have n1_ : Aside0 (Kd.N k33 33 w58 w.heap.size (fun k_ => nB k_ v511 ∧ nB k_ v514 ∧ k_ ≠ gb494) v505 y504) := ⟨h1_⟩
            have n2_ : Aside0 (Kd.N k33 33 w58 w.heap.size (fun k_ => nB k_ (.slice Ao50 y501.length co50) ∧ nB k_ v505 ∧ nB k_ v514 ∧ k_ ≠ gb494) v511 y510) := ⟨h2_⟩
            have n3_ : Aside0 (Kd.N k33 33 w58 w.heap.size (fun k_ => nB k_ (.slice Ao50 y501.length co50) ∧ nB k_ v505 ∧ nB k_ v511 ∧ nB k_ (.slice Ao7 t483.length co7) ∧ k_ ≠ gb494) v514 y513) := ⟨h3_⟩
            have n4_ : Aside0 (Kd.N k33 33 w58 w.heap.size (fun k_ => nB k_ (.slice Ao50 y501.length co50) ∧ nB k_ v505 ∧ nB k_ v511 ∧ nB k_ v514 ∧ k_ ≠ gb494) (.slice Ao7 t483.length co7) t483) := ⟨h4_⟩
            have n5_ : Aside0 (w58.heap[gb494]? = some (.cells #[.int .i64 1, .int .i64 1, .int .i64 0, .int .i64 0, .slice none 0 0] 31 (0, 0))) := ⟨h5_⟩
            have n6_ : Aside0 (Below w.heap.size w w58) := ⟨h6_⟩
            clear HO_3 HO503 HO506 BK494 HB h0_ h1_ h2_ h3_ h4_ h5_ h6_
            have HO503 := n0_
            have HO506 := n1_
            have HO512 := n2_
            have HO515 := n3_
            have HO_3 := n4_
            have BK494 := n5_
            have HB := n6_
            clear n0_ n1_ n2_ n3_ n4_ n5_ n6_
            have hHeld : w58.cell? ⟨gb494, 0, none⟩ = some (.int .i64 1) ∧ w58.cell? ⟨gb494, 1, none⟩ = some (.int .i64 1) ∧ w58.cell? ⟨gb494, 2, none⟩ = some (.int .i64 0) ∧ w58.cell? ⟨gb494, 3, none⟩ = some (.int .i64 0) ∧ w58.cell? ⟨gb494, 4, none⟩ = some (.slice none 0 0) := hS_
            obtain ⟨Ao59, co59, eo59⟩ := Kd.N_slice HO515.out
            (first | subst eo59 | (injection eo59 with f1_ f2_ f3_; have f4_ := f1_.symm; have f5_ := f3_.symm; clear f1_ f2_ f3_; subst f4_; subst f5_))
            refine norm_ (a' := ?_) ?_ ?_
            rotate_left
            ·simp only [putAll, Act.put, List.setIfInBounds_toArray, List.set_cons_zero, List.set_cons_succ]
             rfl
            refine one_ (i := 8) (N := some 60) #[true, true, true, true, true, true, true, true, true, false, false] rfl rfl (one_of HT_.out (by kernel_rfl)) (by decide) (fun K hK => ?_)
            refine Kd.N_lit_step k33 _ 33 ?hg (N' := 60) ?hd (xs := ([(⟨3, (⟨0, 0⟩ : S28), (⟨1, 1, (⟨0, 0⟩ : S28), ([] : List (S31))⟩ : S31), ([] : List (S33)), y513⟩ : S33)] : List (S33))) (inner := [.int .i64 3, .int .i64 0, .int .i64 0, .int .i64 1, .int .i64 1, .int .i64 0, .int .i64 0, .slice none 0 0, .slice none 0 0, .slice Ao59 y513.length co59]) (ok := (fun k_ => nB k_ (.slice Ao7 t483.length co7) ∧ nB k_ (.slice Ao50 y501.length co50) ∧ nB k_ v505 ∧ nB k_ v511 ∧ k_ ≠ gb494)) (okp := (fun k_ => nB k_ (.slice Ao7 t483.length co7) ∧ nB k_ (.slice Ao50 y501.length co50) ∧ nB k_ v505 ∧ nB k_ v511 ∧ k_ ≠ gb494)) ?hr ?hp (fun _ hk => hk) ((show ∀ k_, w58.heap.size ≤ k_ → (fun k_ => nB k_ (.slice Ao7 t483.length co7) ∧ nB k_ (.slice Ao50 y501.length co50) ∧ nB k_ v505 ∧ nB k_ v511 ∧ k_ ≠ gb494) k_ from fun k_ hk => ⟨Kd.fresh' (Kd.N_lt (mN HO_3.out)) k_ hk, Kd.fresh' (Kd.N_lt (mN HO503.out)) k_ hk, Kd.fresh' (Kd.N_lt (mN HO506.out)) k_ hk, Kd.fresh' (Kd.N_lt (mN HO512.out)) k_ hk, fB BK494.out hk⟩) _ (Nat.le_refl _)) (Below.refl _ _) (Nat.le_refl _) (by simp) ?_; (case hd => rfl); (case hg => rfl); (case hr => first | (go_simp; done) | (go_simp; rfl)); (case hp => exact (Reps.c10 (show Kd.FK k33 _ _ (⟨3, (⟨0, 0⟩ : S28), (⟨1, 1, (⟨0, 0⟩ : S28), ([] : List (S31))⟩ : S31), ([] : List (S33)), y513⟩ : S33) [.int .i64 3, .int .i64 0, .int .i64 0, .int .i64 1, .int .i64 1, .int .i64 0, .int .i64 0, .slice none 0 0, .slice none 0 0, .slice Ao59 y513.length co59] from (k33_mkF _ _ (⟨3, (⟨0, 0⟩ : S28), (⟨1, 1, (⟨0, 0⟩ : S28), ([] : List (S31))⟩ : S31), ([] : List (S33)), y513⟩ : S33) (Nat.le_refl _) (Kd.F_nil _ _ _) (Nat.le_refl _) (Kd.F_nil _ _ _) (Kd.N_reads' (Kd.N_mono (ok' := (fun k_ => nB k_ (.slice Ao7 t483.length co7) ∧ nB k_ (.slice Ao50 y501.length co50) ∧ nB k_ v505 ∧ nB k_ v511 ∧ k_ ≠ gb494)) (HO515.out) (fun k_ hk => ⟨hk.2.2.2.1, ⟨hk.1, ⟨hk.2.1, ⟨hk.2.2.1, hk.2.2.2.2⟩⟩⟩⟩))).2.1 (Kd.N_F (Kd.N_mono (ok' := (fun k_ => nB k_ (.slice Ao7 t483.length co7) ∧ nB k_ (.slice Ao50 y501.length co50) ∧ nB k_ v505 ∧ nB k_ v511 ∧ k_ ≠ gb494)) (HO515.out) (fun k_ hk => ⟨hk.2.2.2.1, ⟨hk.1, ⟨hk.2.1, ⟨hk.2.2.1, hk.2.2.2.2⟩⟩⟩⟩))))) (Reps.none _ _)))
            intro v517 w60 ho61 hb hg_ hnew_
            clear hg_ hnew_
            (first | rw [← Ny516.out] at ho61 | (simp only [Int.reduceToNat] at ho61; rw [← Ny516.out] at ho61))
            have n_ := az (Kd.N_elder' (mN HO_3.out) (by first | exact Kd.N_base ho61 | exact Kd.R_base ho61) hb) <| az (Kd.N_elder' (mN HO503.out) (by first | exact Kd.N_base ho61 | exact Kd.R_base ho61) hb) <| az (Kd.N_elder' (mN HO506.out) (by first | exact Kd.N_base ho61 | exact Kd.R_base ho61) hb) <| az (Kd.N_elder' (mN HO512.out) (by first | exact Kd.N_base ho61 | exact Kd.R_base ho61) hb) <| az (Kd.N_lower ho61 (below_size (mB HB.out))) <| az (bB BK494.out hb) <| z0 (below_step (mB HB.out) hb)
            clear HO_3 HO503 HO506 HO512 BK494 HB HO515
            obtain ⟨HO_3, HO503, HO506, HO512, HO518, BK494, HB⟩ := n_
            clear hb ho61
            refine hK.out _ _ q3_1 (fun hHeld => ?_)
            clear hK K
            refine norm_ (a' := ?_) ?_ ?_
            rotate_left
            ·show Act.put _ (some 60) _ = _
             simp only [Act.put, List.setIfInBounds_toArray, List.set_cons_zero, List.set_cons_succ, i64_w, i32_w]
             rfl
            exact norm_ q3_2 (hJ0_2_6_8 (v508, v511, .slice Ao59 y513.length co59, v517) _ ⟨hHeld, (by (with_reducible repeat (first | apply Kd.N_alloc | apply Kd.N_drewN | apply Kd.N_drew)); exact Kd.N_mono HO503.out (fun _ hk => ⟨hk.1.1, ⟨hk.1.2.1, ⟨hk.2, ⟨hk.1.2.2.2.1, hk.1.2.2.2.2⟩⟩⟩⟩)), (by (with_reducible repeat (first | apply Kd.N_alloc | apply Kd.N_drewN | apply Kd.N_drew)); exact Kd.N_mono HO506.out (fun _ hk => ⟨hk.1.1, ⟨hk.2, hk.1.2.2⟩⟩)), (by (with_reducible repeat (first | apply Kd.N_alloc | apply Kd.N_drewN | apply Kd.N_drew)); exact Kd.N_mono HO512.out (fun _ hk => ⟨hk.1.1, ⟨hk.1.2.1, ⟨hk.2, hk.1.2.2.2⟩⟩⟩)), (by (with_reducible repeat (first | apply Kd.N_alloc | apply Kd.N_drewN | apply Kd.N_drew)); exact Kd.N_mono HO518.out (fun _ hk => ⟨hk.2.1, ⟨hk.2.2.1, ⟨hk.2.2.2.1, ⟨hk.1, hk.2.2.2.2⟩⟩⟩⟩)), (by (with_reducible repeat (first | apply Kd.N_alloc | apply Kd.N_drewN | apply Kd.N_drew)); exact Kd.N_mono HO_3.out (fun _ hk => ⟨hk.1.1, ⟨hk.1.2.1, ⟨hk.1.2.2.1, ⟨hk.2, hk.1.2.2.2.2⟩⟩⟩⟩)), (mK BK494.out), (mB HB.out)⟩)
          rintro ⟨v508, v511, v514, v517⟩ w60 ⟨hS_, h0_, h1_, h2_, h3_, h4_, h5_, h6_⟩
          have n0_ : Aside0 (Kd.N k33 33 w60 w.heap.size (fun k_ => nB k_ v505 ∧ nB k_ v511 ∧ nB k_ v517 ∧ nB k_ (.slice Ao7 t483.length co7) ∧ k_ ≠ gb494) (.slice Ao50 y501.length co50) y501) := ⟨h0_⟩
          have n1_ : Aside0 (Kd.N k33 33 w60 w.heap.size (fun k_ => nB k_ v511 ∧ nB k_ v517 ∧ k_ ≠ gb494) v505 y504) := ⟨h1_⟩
          have n2_ : Aside0 (Kd.N k33 33 w60 w.heap.size (fun k_ => nB k_ (.slice Ao50 y501.length co50) ∧ nB k_ v505 ∧ nB k_ v517 ∧ k_ ≠ gb494) v511 y510) := ⟨h2_⟩
          have n3_ : Aside0 (Kd.N k33 33 w60 w.heap.size (fun k_ => nB k_ (.slice Ao50 y501.length co50) ∧ nB k_ v505 ∧ nB k_ v511 ∧ nB k_ (.slice Ao7 t483.length co7) ∧ k_ ≠ gb494) v517 y516) := ⟨h3_⟩
          have n4_ : Aside0 (Kd.N k33 33 w60 w.heap.size (fun k_ => nB k_ (.slice Ao50 y501.length co50) ∧ nB k_ v505 ∧ nB k_ v511 ∧ nB k_ v517 ∧ k_ ≠ gb494) (.slice Ao7 t483.length co7) t483) := ⟨h4_⟩
          have n5_ : Aside0 (w60.heap[gb494]? = some (.cells #[.int .i64 1, .int .i64 1, .int .i64 0, .int .i64 0, .slice none 0 0] 31 (0, 0))) := ⟨h5_⟩
          have n6_ : Aside0 (Below w.heap.size w w60) := ⟨h6_⟩
          clear HO_3 HO503 HO506 BK494 HB h0_ h1_ h2_ h3_ h4_ h5_ h6_
          have HO503 := n0_
          have HO506 := n1_
          have HO512 := n2_
          have HO518 := n3_
          have HO_3 := n4_
          have BK494 := n5_
          have HB := n6_
          clear n0_ n1_ n2_ n3_ n4_ n5_ n6_
          have hHeld : w60.cell? ⟨gb494, 0, none⟩ = some (.int .i64 1) ∧ w60.cell? ⟨gb494, 1, none⟩ = some (.int .i64 1) ∧ w60.cell? ⟨gb494, 2, none⟩ = some (.int .i64 0) ∧ w60.cell? ⟨gb494, 3, none⟩ = some (.int .i64 0) ∧ w60.cell? ⟨gb494, 4, none⟩ = some (.slice none 0 0) := hS_
          obtain ⟨Ao62, co62, eo62⟩ := Kd.N_slice HO518.out
          (first | subst eo62 | (injection eo62 with f1_ f2_ f3_; have f4_ := f1_.symm; have f5_ := f3_.symm; clear f1_ f2_ f3_; subst f4_; subst f5_))
          refine norm_ (a' := ?_) ?_ ?_
          rotate_left
          ·simp only [putAll, Act.put, List.setIfInBounds_toArray, List.set_cons_zero, List.set_cons_succ]
           rfl
          refine one_ (i := 9) (N := some 61) #[true, true, true, true, true, true, true, true, true, true, false] rfl rfl (one_of HT_.out (by kernel_rfl)) (by decide) (fun K hK => ?_)
          refine Kd.N_append_rows_step k33 (w0 := w) w.heap.size (by rfl) (.tmp 54) (.tmp 60) 23 33 (.agg #[(.int .i64 0), (.int .i64 0), (.int .i64 0), (.int .i64 0), (.int .i64 0), (.int .i64 0), (.int .i64 0), (.slice none 0 0), (.slice none 0 0), (.slice none 0 0)]) 128 rfl Tryz.underlying23 info33 rfl (by decide) (by omega) v511 y510 y516 _ _ _ (fun k_ => nB k_ (.slice Ao50 y501.length co50) ∧ nB k_ v505 ∧ k_ ≠ gb494) (fun k_ => ((fun k_ => nB k_ (.slice Ao50 y501.length co50) ∧ nB k_ v505 ∧ k_ ≠ gb494)) k_ ∧ nB k_ v511) rfl rfl ?aO ?aR (fun _ hk => hk) ?aF ?aB ?aS ?aL ?_
          (case aR => exact (by skip; exact Kd.N_F (Kd.N_mono (ok' := (fun k_ => ((fun k_ => nB k_ (.slice Ao50 y501.length co50) ∧ nB k_ v505 ∧ k_ ≠ gb494)) k_ ∧ nB k_ v511)) (HO518.out) (fun k_ hk => ⟨⟨hk.1, ⟨hk.2.1, hk.2.2.2.2⟩⟩, hk.2.2.1⟩))))
          (case aB => exact (mB HB.out))
          (case aF => exact (fun k_ hk => ⟨Kd.fresh' (Kd.N_lt (mN HO503.out)) k_ hk, Kd.fresh' (Kd.N_lt (mN HO506.out)) k_ hk, fB BK494.out hk⟩))
          (case aO => exact (by (with_reducible repeat (first | apply Kd.N_alloc | apply Kd.N_drewN | apply Kd.N_drew)); exact Kd.N_mono HO512.out (fun _ hk => ⟨hk.1, ⟨hk.2.1, hk.2.2.2⟩⟩)))
          (case aS => exact (below_size (mB HB.out)))
          (case aL => have := LMc37.out; omega)
          intro v520 w61 ho hb hg hat
          rw [← Ny519.out] at ho
          have n_ := And.intro (z0 (Kd.N_afterv (ok := (fun k_ => nB k_ (.slice Ao50 y501.length co50) ∧ nB k_ v505 ∧ nB k_ (.slice Ao62 y516.length co62) ∧ k_ ≠ gb494)) q3_7 hg hat)) <| az (blk_grown (g := gb494) (o := .cells #[.int .i64 1, .int .i64 1, .int .i64 0, .int .i64 0, .slice none 0 0] 31 (0, 0)) (mK BK494.out) hg (Kd.N_ne HO512.out BK494.out (by decide))) <| And.intro (z0 (Kd.N_afterv (ok := (fun k_ => nB k_ (.slice Ao7 t483.length co7) ∧ nB k_ v505 ∧ nB k_ (.slice Ao62 y516.length co62) ∧ k_ ≠ gb494)) q3_6 hg hat)) <| And.intro (z0 (Kd.N_afterv (ok := (fun k_ => nB k_ (.slice Ao62 y516.length co62) ∧ k_ ≠ gb494)) (by (with_reducible repeat (first | apply Kd.N_alloc | apply Kd.N_drewN | apply Kd.N_drew)); exact Kd.N_mono HO506.out (fun _ hk => ⟨⟨hk.2.1, hk.2.2⟩, hk.1⟩)) hg hat)) <| And.intro (z0 (Kd.N_afterv (ok := (fun k_ => nB k_ (.slice Ao7 t483.length co7) ∧ nB k_ (.slice Ao50 y501.length co50) ∧ nB k_ v505 ∧ k_ ≠ gb494)) (by (with_reducible repeat (first | apply Kd.N_alloc | apply Kd.N_drewN | apply Kd.N_drew)); exact Kd.N_mono HO518.out (fun _ hk => ⟨⟨hk.2.2.2.1, ⟨hk.1, ⟨hk.2.1, hk.2.2.2.2⟩⟩⟩, hk.2.2.1⟩)) hg hat)) <| az (hb) <| z0 (ho)
          clear HO_3 BK494 HO503 HO506 HO518 HB HO512
          obtain ⟨HO_3, BK494, HO503, HO506, HO518, HB, HO521⟩ := n_
          clear ho hb hg hat
          refine hK.out _ _ q3_1 (fun hHeld => ?_)
          clear hK K
          refine norm_ (a' := ?_) ?_ ?_
          rotate_left
          ·show Act.put _ (some 61) _ = _
           simp only [Act.put, List.setIfInBounds_toArray, List.set_cons_zero, List.set_cons_succ, i64_w, i32_w]
           rfl
          refine pure_ (i := 10) (N := some 7) (v := ?_) (a' := ?_) #[true, true, true, true, true, true, true, true, true, true, true] rfl rfl (any_of HT_.out (by kernel_rfl)) (fun _ _ _ h => h) (Or.inl ⟨by rfl, ?_⟩) ?_ ?_
          rotate_left
          ·intro w'
           go_simp
           with_reducible rfl
          rotate_left
          ·simp only [Act.put, List.setIfInBounds_toArray, List.set_cons_zero, List.set_cons_succ, i64_w, i32_w]
           rfl
          refine done_ (done_of HT_.out (by kernel_rfl)) ?_
          try go_wp2_with (first | ((with_reducible refine gate_dst (N := 62) rfl ?_); (try (refine gate_guard (by rfl) ?_; dsimp only)); refine Kd.N_lit k33 _ 33 ?hg (N' := 62) ?hd (xs := ([] : List (S33))) (inner := []) (ok := (fun k_ => nB k_ (.slice Ao7 t483.length co7) ∧ nB k_ (.slice Ao50 y501.length co50) ∧ nB k_ v505 ∧ nB k_ (.slice Ao62 y516.length co62) ∧ nB k_ v520 ∧ k_ ≠ gb494)) (okp := (fun k_ => nB k_ (.slice Ao7 t483.length co7) ∧ nB k_ (.slice Ao50 y501.length co50) ∧ nB k_ v505 ∧ nB k_ (.slice Ao62 y516.length co62) ∧ nB k_ v520 ∧ k_ ≠ gb494)) ?hr ?hp (fun _ hk => hk) ((show ∀ k_, w61.heap.size ≤ k_ → (fun k_ => nB k_ (.slice Ao7 t483.length co7) ∧ nB k_ (.slice Ao50 y501.length co50) ∧ nB k_ v505 ∧ nB k_ (.slice Ao62 y516.length co62) ∧ nB k_ v520 ∧ k_ ≠ gb494) k_ from fun k_ hk => ⟨Kd.fresh' (Kd.N_lt (mN HO_3.out)) k_ hk, Kd.fresh' (Kd.N_lt (mN HO503.out)) k_ hk, Kd.fresh' (Kd.N_lt (mN HO506.out)) k_ hk, Kd.fresh' (Kd.N_lt (mN HO518.out)) k_ hk, Kd.fresh' (Kd.N_lt (mN HO521.out)) k_ hk, fB BK494.out hk⟩) _ (Nat.le_refl _)) (Below.refl _ _) (Nat.le_refl _) (by simp) ?_; (case hd => rfl); (case hg => rfl); (case hr => first | (go_simp; done) | (go_simp; rfl)); (case hp => exact (Reps.none _ _)); intro v523 w63 ho64 hb hg_ hnew_; clear hg_ hnew_; (first | rw [← Ny522.out] at ho64 | (simp only [Int.reduceToNat] at ho64; rw [← Ny522.out] at ho64)); have n_ := az (Kd.N_elder' (mN HO_3.out) (by first | exact Kd.N_base ho64 | exact Kd.R_base ho64) hb) <| az (Kd.N_elder' (mN HO503.out) (by first | exact Kd.N_base ho64 | exact Kd.R_base ho64) hb) <| az (Kd.N_elder' (mN HO506.out) (by first | exact Kd.N_base ho64 | exact Kd.R_base ho64) hb) <| az (Kd.N_elder' (mN HO518.out) (by first | exact Kd.N_base ho64 | exact Kd.R_base ho64) hb) <| az (Kd.N_elder' (mN HO521.out) (by first | exact Kd.N_base ho64 | exact Kd.R_base ho64) hb) <| az (Kd.N_lower ho64 (below_size (mB HB.out))) <| az (bB BK494.out hb) <| z0 (below_step (mB HB.out) hb); clear HO_3 HO503 HO506 HO518 HO521 BK494 HB; obtain ⟨HO_3, HO503, HO506, HO518, HO521, HO524, BK494, HB⟩ := n_; clear hb ho64) | ((with_reducible refine gate_builtin (b := .append) (xs := #[.tmp 62, .tmp 63]) rfl ?_); (try (refine gate_guard (by rfl) ?_; dsimp only)); at_builtin; refine Kd.N_append_rows k33 (w0 := w) w.heap.size rfl (.tmp 62) (.tmp 63) 23 33 (.agg #[(.int .i64 0), (.int .i64 0), (.int .i64 0), (.int .i64 0), (.int .i64 0), (.int .i64 0), (.int .i64 0), (.slice none 0 0), (.slice none 0 0), (.slice none 0 0)]) 128 rfl Tryz.underlying23 info33 rfl (by decide) (by omega) v523 y522 t483 _ _ _ (fun k_ => nB k_ (.slice Ao50 y501.length co50) ∧ nB k_ v505 ∧ nB k_ (.slice Ao62 y516.length co62) ∧ nB k_ v520 ∧ k_ ≠ gb494) (fun k_ => ((fun k_ => nB k_ (.slice Ao50 y501.length co50) ∧ nB k_ v505 ∧ nB k_ (.slice Ao62 y516.length co62) ∧ nB k_ v520 ∧ k_ ≠ gb494)) k_ ∧ nB k_ v523) rfl rfl ?aO ?aR (fun _ hk => hk) ?aF ?aB ?aS ?aL ?_; (case aR => exact (by skip; exact Kd.N_F (Kd.N_mono (ok' := (fun k_ => ((fun k_ => nB k_ (.slice Ao50 y501.length co50) ∧ nB k_ v505 ∧ nB k_ (.slice Ao62 y516.length co62) ∧ nB k_ v520 ∧ k_ ≠ gb494)) k_ ∧ nB k_ v523)) (HO_3.out) (fun k_ hk => ⟨⟨hk.1.1.1, ⟨hk.1.1.2.1, ⟨hk.1.1.2.2.1, ⟨hk.1.2, hk.1.1.2.2.2⟩⟩⟩⟩, hk.2⟩)))); (case aB => exact (mB HB.out)); (case aF => exact (fun k_ hk => ⟨Kd.fresh' (Kd.N_lt (mN HO503.out)) k_ hk, Kd.fresh' (Kd.N_lt (mN HO506.out)) k_ hk, Kd.fresh' (Kd.N_lt (mN HO518.out)) k_ hk, Kd.fresh' (Kd.N_lt (mN HO521.out)) k_ hk, fB BK494.out hk⟩)); (case aO => exact (by (with_reducible repeat (first | apply Kd.N_alloc | apply Kd.N_drewN | apply Kd.N_drew)); exact Kd.N_mono HO524.out (fun _ hk => ⟨hk.2.1, ⟨hk.2.2.1, ⟨hk.2.2.2.1, ⟨hk.2.2.2.2.1, hk.2.2.2.2.2⟩⟩⟩⟩))); (case aS => exact (below_size (mB HB.out))); (case aL => have := LMc38.out; omega); intro v526 w65 ho hb hg hat; rw [← Ny525.out] at ho; have n_ := az (Kd.N_afterv (ok := (fun k_ => nB k_ (.slice Ao50 y501.length co50) ∧ nB k_ v505 ∧ nB k_ (.slice Ao62 y516.length co62) ∧ nB k_ v520 ∧ k_ ≠ gb494)) (by (with_reducible repeat (first | apply Kd.N_alloc | apply Kd.N_drewN | apply Kd.N_drew)); exact Kd.N_mono HO_3.out (fun _ hk => ⟨⟨hk.1.1.1, ⟨hk.1.1.2.1, ⟨hk.1.1.2.2.1, ⟨hk.1.2, hk.1.1.2.2.2⟩⟩⟩⟩, hk.2⟩)) hg hat) <| az (blk_grown (g := gb494) (o := .cells #[.int .i64 1, .int .i64 1, .int .i64 0, .int .i64 0, .slice none 0 0] 31 (0, 0)) (mK BK494.out) hg (Kd.N_ne HO524.out BK494.out (by decide))) <| az (Kd.N_afterv (ok := (fun k_ => nB k_ (.slice Ao7 t483.length co7) ∧ nB k_ v505 ∧ nB k_ (.slice Ao62 y516.length co62) ∧ nB k_ v520 ∧ k_ ≠ gb494)) (by (with_reducible repeat (first | apply Kd.N_alloc | apply Kd.N_drewN | apply Kd.N_drew)); exact Kd.N_mono HO503.out (fun _ hk => ⟨⟨hk.1.1.1, ⟨hk.1.1.2.1, ⟨hk.1.1.2.2.1, ⟨hk.1.2, hk.1.1.2.2.2⟩⟩⟩⟩, hk.2⟩)) hg hat) <| az (Kd.N_afterv (ok := (fun k_ => nB k_ (.slice Ao62 y516.length co62) ∧ nB k_ v520 ∧ k_ ≠ gb494)) (by (with_reducible repeat (first | apply Kd.N_alloc | apply Kd.N_drewN | apply Kd.N_drew)); exact Kd.N_mono HO506.out (fun _ hk => ⟨⟨hk.1.1.1, ⟨hk.1.2, hk.1.1.2⟩⟩, hk.2⟩)) hg hat) <| az (Kd.N_afterv (ok := (fun k_ => nB k_ (.slice Ao7 t483.length co7) ∧ nB k_ (.slice Ao50 y501.length co50) ∧ nB k_ v505 ∧ nB k_ v520 ∧ k_ ≠ gb494)) (by (with_reducible repeat (first | apply Kd.N_alloc | apply Kd.N_drewN | apply Kd.N_drew)); exact Kd.N_mono HO518.out (fun _ hk => ⟨⟨hk.1.1.1, ⟨hk.1.1.2.1, ⟨hk.1.1.2.2.1, ⟨hk.1.2, hk.1.1.2.2.2⟩⟩⟩⟩, hk.2⟩)) hg hat) <| az (Kd.N_afterv (ok := (fun k_ => nB k_ (.slice Ao50 y501.length co50) ∧ nB k_ v505 ∧ k_ ≠ gb494)) (mN HO521.out) hg hat) <| az (hb) <| z0 (ho); clear HO_3 BK494 HO503 HO506 HO518 HO521 HB HO524; obtain ⟨HO_3, BK494, HO503, HO506, HO518, HO521, HB, HO527⟩ := n_; clear ho hb hg hat))
          go_loopg [8] kj4 (fun kq v8 w' => ∃ (x8_2 : List (S33)), Aside0 (laws_FnStmtsBent.l0 kq t483 t486 y504 y519 x8_2 1 1 0 0 = some r) ∧ Aside0 (kq ≤ kj4) ∧ Aside0 (Kd.N k33 33 w' w.heap.size (fun k_ => nB k_ v505 ∧ nB k_ v520 ∧ nB k_ v8 ∧ k_ ≠ gb494) (.slice Ao7 t483.length co7) t483) ∧ Aside0 (Kd.N k33 33 w' w.heap.size (fun k_ => nB k_ v520 ∧ nB k_ v8 ∧ k_ ≠ gb494) v505 y504) ∧ Aside0 (Kd.N k33 33 w' w.heap.size (fun k_ => nB k_ v505 ∧ nB k_ v8 ∧ k_ ≠ gb494) v520 y519) ∧ Aside0 (Kd.N k33 33 w' w.heap.size (fun k_ => nB k_ v505 ∧ nB k_ v520 ∧ k_ ≠ gb494) v8 x8_2) ∧ Aside0 (w'.heap[gb494]? = some (.cells #[.int .i64 1, .int .i64 1, .int .i64 0, .int .i64 0, (.slice none 0 0)] 31 (0, 0))) ∧ Aside0 (Below w.heap.size w w'))
          case atStart => exact ⟨(y525), H', ⟨Nat.le_refl _⟩, ⟨by (with_reducible repeat (first | apply Kd.N_alloc | apply Kd.N_drewN | apply Kd.N_drew)); exact Kd.N_mono HO_3.out (fun _ hk => ⟨hk.1.2.1, ⟨hk.1.2.2.2.1, ⟨hk.2, hk.1.2.2.2.2⟩⟩⟩)⟩, ⟨by (with_reducible repeat (first | apply Kd.N_alloc | apply Kd.N_drewN | apply Kd.N_drew)); exact Kd.N_mono HO506.out (fun _ hk => ⟨hk.1.2.1, ⟨hk.2, hk.1.2.2⟩⟩)⟩, ⟨by (with_reducible repeat (first | apply Kd.N_alloc | apply Kd.N_drewN | apply Kd.N_drew)); exact Kd.N_mono HO521.out (fun _ hk => ⟨hk.1.2.1, ⟨hk.2, hk.1.2.2⟩⟩)⟩, ⟨by (with_reducible repeat (first | apply Kd.N_alloc | apply Kd.N_drewN | apply Kd.N_drew)); exact Kd.N_mono HO527.out (fun _ hk => ⟨hk.2.1, ⟨hk.2.2.2.1, hk.2.2.2.2⟩⟩)⟩, ⟨mK BK494.out⟩, ⟨mB HB.out⟩⟩
          case round =>
           clear H'
           (try clear c36); (try clear c37); (try clear c38)
           obtain ⟨x8_2, HA, HK2, HO_3, HO_6, HO_7, HO_8, BK494, HB⟩ := hrel
           cases gk with
           | zero => exact absurd HA.out (by simp [laws_FnStmtsBent.l0])
           | succ k2 =>
            have H := HA.out
            clear HA
            simp only [laws_FnStmtsBent.l0] at H
            by_cases c66 : (x8_2.length : Int) ≤ 16
            ·rw [if_pos c66] at H
             have c66b0 : decide ((x8_2.length : Int) ≤ 16) = true := decide_eq_true c66
             have c66b1 : decide (x8_2.length ≤ 16) = true := decide_eq_true (by omega)
             clear c66
             obtain ⟨y528, hy528⟩ : ∃ y_ : List (S33), y_ = (([(⟨2, (⟨0, 0⟩ : S28), (⟨1, 1, (⟨0, 0⟩ : S28), ([] : List (S31))⟩ : S31), ([] : List (S33)), ([] : List (S33))⟩ : S33)] : List (S33))) := ⟨_, rfl⟩
             replace H : (if x8_2.length + y528.length < 1099511627776 then (laws_FnStmtsBent.l0 k2 t483 t486 y504 y519 (x8_2 ++ y528) 1 1 0 0) else (none)) = some r := by first | (rw [hy528]; with_reducible exact H) | (have H2_ := (Option.bind_some _ _).symm.trans H; rw [hy528]; with_reducible exact H2_) | (have H2_ := (Option.bind_some _ _).symm.trans H; with_reducible exact H2_) | with_reducible exact H | (rw [hy528]; exact H) | exact H
             have Ny528 := z0 hy528
             clear hy528
             by_cases c67 : x8_2.length + y528.length < 1099511627776
             ·rw [if_pos c67] at H
              have LMc67 := z0 c67
              clear c67
              obtain ⟨y531, hy531⟩ : ∃ y_ : List (S33), y_ = (x8_2 ++ y528) := ⟨_, rfl⟩
              replace H : (laws_FnStmtsBent.l0 k2 t483 t486 y504 y519 y531 1 1 0 0) = some r := by first | (rw [hy531]; with_reducible exact H) | (have H2_ := (Option.bind_some _ _).symm.trans H; rw [hy531]; with_reducible exact H2_) | (have H2_ := (Option.bind_some _ _).symm.trans H; with_reducible exact H2_) | with_reducible exact H | (rw [hy531]; exact H) | exact H
              have Ny531 := z0 hy531
              clear hy531
              have H' := z0 H
              clear H
              obtain ⟨Ao68, co68, eo68⟩ := Kd.N_slice HO_8.out
              subst eo68
              obtain ⟨hcz69_0, hcz69_1, hcz69_2, hcz69_3, hcz69_4, hfz69_0, hfz69_1, hfz69_2, hfz69_3, hfz69_4⟩ := cel5 BK494.out
              go_wp2_with (first | ((with_reducible refine gate_dst (N := 71) rfl ?_); (try (refine gate_guard (by rfl) ?_; dsimp only)); refine Kd.N_lit k33 _ 33 ?hg (N' := 71) ?hd (xs := ([(⟨2, (⟨0, 0⟩ : S28), (⟨1, 1, (⟨0, 0⟩ : S28), ([] : List (S31))⟩ : S31), ([] : List (S33)), ([] : List (S33))⟩ : S33)] : List (S33))) (inner := [.int .i64 2, .int .i64 0, .int .i64 0, .int .i64 1, .int .i64 1, .int .i64 0, .int .i64 0, .slice none 0 0, .slice none 0 0, .slice none 0 0]) (ok := (fun k_ => nB k_ (.slice Ao7 t483.length co7) ∧ nB k_ v505 ∧ nB k_ v520 ∧ nB k_ (.slice Ao68 x8_2.length co68) ∧ k_ ≠ gb494)) (okp := (fun k_ => nB k_ (.slice Ao7 t483.length co7) ∧ nB k_ v505 ∧ nB k_ v520 ∧ nB k_ (.slice Ao68 x8_2.length co68) ∧ k_ ≠ gb494)) ?hr ?hp (fun _ hk => hk) ((show ∀ k_, wr.heap.size ≤ k_ → (fun k_ => nB k_ (.slice Ao7 t483.length co7) ∧ nB k_ v505 ∧ nB k_ v520 ∧ nB k_ (.slice Ao68 x8_2.length co68) ∧ k_ ≠ gb494) k_ from fun k_ hk => ⟨Kd.fresh' (Kd.N_lt (mN HO_3.out)) k_ hk, Kd.fresh' (Kd.N_lt (mN HO_6.out)) k_ hk, Kd.fresh' (Kd.N_lt (mN HO_7.out)) k_ hk, Kd.fresh' (Kd.N_lt (mN HO_8.out)) k_ hk, fB BK494.out hk⟩) _ (Nat.le_refl _)) (Below.refl _ _) (Nat.le_refl _) (by simp) ?_; (case hd => rfl); (case hg => rfl); (case hr => first | (go_simp; done) | (go_simp; rfl)); (case hp => exact (Reps.c10 (show Kd.FK k33 _ _ (⟨2, (⟨0, 0⟩ : S28), (⟨1, 1, (⟨0, 0⟩ : S28), ([] : List (S31))⟩ : S31), ([] : List (S33)), ([] : List (S33))⟩ : S33) [.int .i64 2, .int .i64 0, .int .i64 0, .int .i64 1, .int .i64 1, .int .i64 0, .int .i64 0, .slice none 0 0, .slice none 0 0, .slice none 0 0] from (k33_mkF _ _ (⟨2, (⟨0, 0⟩ : S28), (⟨1, 1, (⟨0, 0⟩ : S28), ([] : List (S31))⟩ : S31), ([] : List (S33)), ([] : List (S33))⟩ : S33) (Nat.le_refl _) (Kd.F_nil _ _ _) (Nat.le_refl _) (Kd.F_nil _ _ _) (Nat.le_refl _) (Kd.F_nil _ _ _))) (Reps.none _ _))); intro v529 w70 ho71 hb hg_ hnew_; clear hg_ hnew_; (first | rw [← Ny528.out] at ho71 | (simp only [Int.reduceToNat] at ho71; rw [← Ny528.out] at ho71)); have n_ := az (Kd.N_elder' (mN HO_3.out) (by first | exact Kd.N_base ho71 | exact Kd.R_base ho71) hb) <| az (Kd.N_elder' (mN HO_6.out) (by first | exact Kd.N_base ho71 | exact Kd.R_base ho71) hb) <| az (Kd.N_elder' (mN HO_7.out) (by first | exact Kd.N_base ho71 | exact Kd.R_base ho71) hb) <| az (Kd.N_elder' (mN HO_8.out) (by first | exact Kd.N_base ho71 | exact Kd.R_base ho71) hb) <| az (Kd.N_lower ho71 (below_size (mB HB.out))) <| az (bB BK494.out hb) <| z0 (below_step (mB HB.out) hb); clear HO_3 HO_6 HO_7 HO_8 BK494 HB; obtain ⟨HO_3, HO_6, HO_7, HO_8, HO530, BK494, HB⟩ := n_; clear hb ho71; obtain ⟨Ao73, co73, eo73⟩ := Kd.N_slice HO530.out; subst eo73) | ((with_reducible refine gate_builtin (b := .append) (xs := #[.tmp 68, .tmp 71]) rfl ?_); (try (refine gate_guard (by rfl) ?_; dsimp only)); at_builtin; refine Kd.N_append_rows k33 (w0 := w) w.heap.size rfl (.tmp 68) (.tmp 71) 23 33 (.agg #[(.int .i64 0), (.int .i64 0), (.int .i64 0), (.int .i64 0), (.int .i64 0), (.int .i64 0), (.int .i64 0), (.slice none 0 0), (.slice none 0 0), (.slice none 0 0)]) 128 rfl Tryz.underlying23 info33 rfl (by decide) (by omega) (.slice Ao68 x8_2.length co68) x8_2 y528 _ _ _ (fun k_ => nB k_ v505 ∧ nB k_ v520 ∧ k_ ≠ gb494) (fun k_ => ((fun k_ => nB k_ v505 ∧ nB k_ v520 ∧ k_ ≠ gb494)) k_ ∧ nB k_ (.slice Ao68 x8_2.length co68)) rfl rfl ?aO ?aR (fun _ hk => hk) ?aF ?aB ?aS ?aL ?_; (case aR => exact (by skip; exact Kd.N_F (Kd.N_mono (ok' := (fun k_ => ((fun k_ => nB k_ v505 ∧ nB k_ v520 ∧ k_ ≠ gb494)) k_ ∧ nB k_ (.slice Ao68 x8_2.length co68))) (HO530.out) (fun k_ hk => ⟨⟨hk.2.1, ⟨hk.2.2.1, hk.2.2.2.2⟩⟩, hk.2.2.2.1⟩)))); (case aB => exact (mB HB.out)); (case aF => exact (fun k_ hk => ⟨Kd.fresh' (Kd.N_lt (mN HO_6.out)) k_ hk, Kd.fresh' (Kd.N_lt (mN HO_7.out)) k_ hk, fB BK494.out hk⟩)); (case aO => exact (by (with_reducible repeat (first | apply Kd.N_alloc | apply Kd.N_drewN | apply Kd.N_drew)); exact Kd.N_mono HO_8.out (fun _ hk => ⟨hk.1.1, ⟨hk.1.2.1, hk.1.2.2⟩⟩))); (case aS => exact (below_size (mB HB.out))); (case aL => have := LMc67.out; omega); intro v532 w72 ho hb hg hat; rw [← Ny531.out] at ho; have n_ := az (Kd.N_afterv (ok := (fun k_ => nB k_ v505 ∧ nB k_ v520 ∧ nB k_ (.slice Ao73 y528.length co73) ∧ k_ ≠ gb494)) (by (with_reducible repeat (first | apply Kd.N_alloc | apply Kd.N_drewN | apply Kd.N_drew)); exact Kd.N_mono HO_3.out (fun _ hk => ⟨⟨hk.1.1, ⟨hk.1.2.1, ⟨hk.2, hk.1.2.2.2⟩⟩⟩, hk.1.2.2.1⟩)) hg hat) <| az (Kd.N_afterv (ok := (fun k_ => nB k_ v520 ∧ nB k_ (.slice Ao73 y528.length co73) ∧ k_ ≠ gb494)) (by (with_reducible repeat (first | apply Kd.N_alloc | apply Kd.N_drewN | apply Kd.N_drew)); exact Kd.N_mono HO_6.out (fun _ hk => ⟨⟨hk.1.1, ⟨hk.2, hk.1.2.2⟩⟩, hk.1.2.1⟩)) hg hat) <| az (Kd.N_afterv (ok := (fun k_ => nB k_ v505 ∧ nB k_ (.slice Ao73 y528.length co73) ∧ k_ ≠ gb494)) (by (with_reducible repeat (first | apply Kd.N_alloc | apply Kd.N_drewN | apply Kd.N_drew)); exact Kd.N_mono HO_7.out (fun _ hk => ⟨⟨hk.1.1, ⟨hk.2, hk.1.2.2⟩⟩, hk.1.2.1⟩)) hg hat) <| az (blk_grown (g := gb494) (o := .cells #[.int .i64 1, .int .i64 1, .int .i64 0, .int .i64 0, .slice none 0 0] 31 (0, 0)) (mK BK494.out) hg (Kd.N_ne HO_8.out BK494.out (by decide))) <| az (Kd.N_afterv (ok := (fun k_ => nB k_ (.slice Ao7 t483.length co7) ∧ nB k_ v505 ∧ nB k_ v520 ∧ k_ ≠ gb494)) (by (with_reducible repeat (first | apply Kd.N_alloc | apply Kd.N_drewN | apply Kd.N_drew)); exact Kd.N_mono HO530.out (fun _ hk => ⟨⟨hk.1, ⟨hk.2.1, ⟨hk.2.2.1, hk.2.2.2.2⟩⟩⟩, hk.2.2.2.1⟩)) hg hat) <| az (hb) <| z0 (ho); clear HO_3 HO_6 HO_7 BK494 HO530 HB HO_8; obtain ⟨HO_3, HO_6, HO_7, BK494, HO530, HB, HO533⟩ := n_; clear ho hb hg hat))
              go_roundg k2
              case measure => have := HJ4.out; have := HK2.out; omega
              case rel => exact ⟨(y531), H', ⟨by have := HJ4.out; have := HK2.out; omega⟩, ⟨by (with_reducible repeat (first | apply Kd.N_alloc | apply Kd.N_drewN | apply Kd.N_drew)); exact Kd.N_mono HO_3.out (fun _ hk => ⟨hk.1.1, ⟨hk.1.2.1, ⟨hk.2, hk.1.2.2.2⟩⟩⟩)⟩, ⟨by (with_reducible repeat (first | apply Kd.N_alloc | apply Kd.N_drewN | apply Kd.N_drew)); exact Kd.N_mono HO_6.out (fun _ hk => ⟨hk.1.1, ⟨hk.2, hk.1.2.2⟩⟩)⟩, ⟨by (with_reducible repeat (first | apply Kd.N_alloc | apply Kd.N_drewN | apply Kd.N_drew)); exact Kd.N_mono HO_7.out (fun _ hk => ⟨hk.1.1, ⟨hk.2, hk.1.2.2⟩⟩)⟩, ⟨mN HO533.out⟩, ⟨mK BK494.out⟩, ⟨mB HB.out⟩⟩
             ·rw [if_neg c67] at H
              exact absurd H (by simp)
            ·rw [if_neg c66] at H
             have c66b0 : decide ((x8_2.length : Int) ≤ 16) = false := decide_eq_false c66
             have c66b1 : decide (x8_2.length ≤ 16) = false := decide_eq_false (by omega)
             clear c66
             replace H := Option.bind_eq_some_iff.mp H
             obtain ⟨t534, A740, H⟩ := H
             try dsimp only at H
             have A74 := z0 A740
             clear A740
             by_cases c75 : t534 = true
             ·subst c75
              have H1 : (some false) = some r := by rw [if_pos rfl] at H; exact H
              clear H
              have H := H1
              clear H1
              obtain rfl := Option.some.inj H
              obtain ⟨Ao76, co76, eo76⟩ := Kd.N_slice HO_8.out
              subst eo76
              obtain ⟨Ao77, co77, eo77⟩ := Kd.N_slice HO_6.out
              subst eo77
              go_wp2_with (first | ((with_reducible refine gate_callee (f := 6) rfl ?_); refine goesL_ (some 74) rfl rfl Tryz.func6 (by kernel_rfl) rfl #[.slice Ao77 y504.length co77] rfl argx ?_; (with_reducible refine (impl_StmtsOk.calls _ _ y504 true _ ?side1 ?side2 A74.out).mono ?_); (case side1 => exact mC (Kd.N_reads' HO_6.out).2.2); (case side2 => exact (Kd.N_reads' HO_6.out).2.1); rintro e w78 ⟨rfl, hb⟩; refine ⟨_, rfl, ?_⟩; have n_ := az (Kd.N_below (mN HO_3.out) hb) <| az (Kd.N_below (mN HO_6.out) hb) <| az (Kd.N_below (mN HO_7.out) hb) <| az (Kd.N_below (mN HO_8.out) hb) <| az (bB BK494.out hb) <| z0 (below_step (mB HB.out) hb); clear HO_3 HO_6 HO_7 HO_8 BK494 HB; obtain ⟨HO_3, HO_6, HO_7, HO_8, BK494, HB⟩ := n_; clear hb))
              go_ret
              exact ⟨rfx, mB HB.out⟩
             ·replace c75 := Bool.eq_false_iff.mpr c75
              subst c75
              have H1 : ((impl_StmtsOk.f y519).bind fun t535 => (if t535 = true then (some false) else ((impl_StmtsOk.f x8_2).bind fun t536 => (if t536 = true then (some false) else ((impl_StmtsText.f y504).bind fun t537 => (if t537.toList = ([] : List UInt8) then (if t486 ≥ (t483.length : Int) then (some (decide (t486 ≤ 16))) else (some false)) else (some false))))))) = some r := by rw [if_neg (show ¬ (false = true) by decide)] at H; exact H
              clear H
              have H := H1
              clear H1
              replace H := Option.bind_eq_some_iff.mp H
              obtain ⟨t535, A790, H⟩ := H
              try dsimp only at H
              have A79 := z0 A790
              clear A790
              by_cases c80 : t535 = true
              ·subst c80
               have H1 : (some false) = some r := by rw [if_pos rfl] at H; exact H
               clear H
               have H := H1
               clear H1
               obtain rfl := Option.some.inj H
               obtain ⟨Ao81, co81, eo81⟩ := Kd.N_slice HO_8.out
               subst eo81
               obtain ⟨Ao82, co82, eo82⟩ := Kd.N_slice HO_6.out
               subst eo82
               go_wp2_with (first | ((with_reducible refine gate_callee (f := 6) rfl ?_); refine goesL_ (some 74) rfl rfl Tryz.func6 (by kernel_rfl) rfl #[.slice Ao82 y504.length co82] rfl argx ?_; (with_reducible refine (impl_StmtsOk.calls _ _ y504 false _ ?side1 ?side2 A74.out).mono ?_); (case side1 => exact mC (Kd.N_reads' HO_6.out).2.2); (case side2 => exact (Kd.N_reads' HO_6.out).2.1); rintro e w83 ⟨rfl, hb⟩; refine ⟨_, rfl, ?_⟩; have n_ := az (Kd.N_below (mN HO_3.out) hb) <| az (Kd.N_below (mN HO_6.out) hb) <| az (Kd.N_below (mN HO_7.out) hb) <| az (Kd.N_below (mN HO_8.out) hb) <| az (bB BK494.out hb) <| z0 (below_step (mB HB.out) hb); clear HO_3 HO_6 HO_7 HO_8 BK494 HB; obtain ⟨HO_3, HO_6, HO_7, HO_8, BK494, HB⟩ := n_; clear hb; obtain ⟨Ao84, co84, eo84⟩ := Kd.N_slice HO_7.out; subst eo84) | (go_at_call 6; (with_reducible refine (impl_StmtsOk.calls _ _ y519 true _ ?side1 ?side2 A79.out).mono ?_); (case side1 => exact mC (Kd.N_reads' HO_7.out).2.2); (case side2 => exact (Kd.N_reads' HO_7.out).2.1); rintro e w85 ⟨rfl, hb⟩; have n_ := az (Kd.N_below (mN HO_3.out) hb) <| az (Kd.N_below (mN HO_6.out) hb) <| az (Kd.N_below (mN HO_7.out) hb) <| az (Kd.N_below (mN HO_8.out) hb) <| az (bB BK494.out hb) <| z0 (below_step (mB HB.out) hb); clear HO_3 HO_6 HO_7 HO_8 BK494 HB; obtain ⟨HO_3, HO_6, HO_7, HO_8, BK494, HB⟩ := n_; clear hb))
               go_ret
               exact ⟨rfx, mB HB.out⟩
              ·replace c80 := Bool.eq_false_iff.mpr c80
               subst c80
               have H1 : ((impl_StmtsOk.f x8_2).bind fun t536 => (if t536 = true then (some false) else ((impl_StmtsText.f y504).bind fun t537 => (if t537.toList = ([] : List UInt8) then (if t486 ≥ (t483.length : Int) then (some (decide (t486 ≤ 16))) else (some false)) else (some false))))) = some r := by rw [if_neg (show ¬ (false = true) by decide)] at H; exact H
               clear H
               have H := H1
               clear H1
               replace H := Option.bind_eq_some_iff.mp H
               obtain ⟨t536, A860, H⟩ := H
               try dsimp only at H
               have A86 := z0 A860
               clear A860
               by_cases c87 : t536 = true
               ·subst c87
                have H1 : (some false) = some r := by rw [if_pos rfl] at H; exact H
                clear H
                have H := H1
                clear H1
                obtain rfl := Option.some.inj H
                obtain ⟨Ao88, co88, eo88⟩ := Kd.N_slice HO_8.out
                subst eo88
                obtain ⟨Ao89, co89, eo89⟩ := Kd.N_slice HO_6.out
                subst eo89
                go_wp2_with (first | ((with_reducible refine gate_callee (f := 6) rfl ?_); refine goesL_ (some 74) rfl rfl Tryz.func6 (by kernel_rfl) rfl #[.slice Ao89 y504.length co89] rfl argx ?_; (with_reducible refine (impl_StmtsOk.calls _ _ y504 false _ ?side1 ?side2 A74.out).mono ?_); (case side1 => exact mC (Kd.N_reads' HO_6.out).2.2); (case side2 => exact (Kd.N_reads' HO_6.out).2.1); rintro e w90 ⟨rfl, hb⟩; refine ⟨_, rfl, ?_⟩; have n_ := az (Kd.N_below (mN HO_3.out) hb) <| az (Kd.N_below (mN HO_6.out) hb) <| az (Kd.N_below (mN HO_7.out) hb) <| az (Kd.N_below (mN HO_8.out) hb) <| az (bB BK494.out hb) <| z0 (below_step (mB HB.out) hb); clear HO_3 HO_6 HO_7 HO_8 BK494 HB; obtain ⟨HO_3, HO_6, HO_7, HO_8, BK494, HB⟩ := n_; clear hb; obtain ⟨Ao91, co91, eo91⟩ := Kd.N_slice HO_7.out; subst eo91) | (go_at_call 6; (with_reducible refine (impl_StmtsOk.calls _ _ y519 false _ ?side1 ?side2 A79.out).mono ?_); (case side1 => exact mC (Kd.N_reads' HO_7.out).2.2); (case side2 => exact (Kd.N_reads' HO_7.out).2.1); rintro e w92 ⟨rfl, hb⟩; have n_ := az (Kd.N_below (mN HO_3.out) hb) <| az (Kd.N_below (mN HO_6.out) hb) <| az (Kd.N_below (mN HO_7.out) hb) <| az (Kd.N_below (mN HO_8.out) hb) <| az (bB BK494.out hb) <| z0 (below_step (mB HB.out) hb); clear HO_3 HO_6 HO_7 HO_8 BK494 HB; obtain ⟨HO_3, HO_6, HO_7, HO_8, BK494, HB⟩ := n_; clear hb) | (go_at_call 6; (with_reducible refine (impl_StmtsOk.calls _ _ x8_2 true _ ?side1 ?side2 A86.out).mono ?_); (case side1 => exact mC (Kd.N_reads' HO_8.out).2.2); (case side2 => exact (Kd.N_reads' HO_8.out).2.1); rintro e w93 ⟨rfl, hb⟩; have n_ := az (Kd.N_below (mN HO_3.out) hb) <| az (Kd.N_below (mN HO_6.out) hb) <| az (Kd.N_below (mN HO_7.out) hb) <| az (Kd.N_below (mN HO_8.out) hb) <| az (bB BK494.out hb) <| z0 (below_step (mB HB.out) hb); clear HO_3 HO_6 HO_7 HO_8 BK494 HB; obtain ⟨HO_3, HO_6, HO_7, HO_8, BK494, HB⟩ := n_; clear hb))
                go_ret
                exact ⟨rfx, mB HB.out⟩
               ·replace c87 := Bool.eq_false_iff.mpr c87
                subst c87
                have H1 : ((impl_StmtsText.f y504).bind fun t537 => (if t537.toList = ([] : List UInt8) then (if t486 ≥ (t483.length : Int) then (some (decide (t486 ≤ 16))) else (some false)) else (some false))) = some r := by rw [if_neg (show ¬ (false = true) by decide)] at H; exact H
                clear H
                have H := H1
                clear H1
                replace H := Option.bind_eq_some_iff.mp H
                obtain ⟨t537, A940, H⟩ := H
                try dsimp only at H
                have A94 := z0 A940
                clear A940
                by_cases c95 : t537.toList = ([] : List UInt8)
                ·rw [if_pos c95] at H
                 have c95b0 : (t537.toList == ([] : List UInt8)) = true := beq_iff_eq.mpr c95
                 have c95b1 : (t537.toList != ([] : List UInt8)) = false := bne_eq_false_iff_eq.mpr c95
                 clear c95
                 by_cases c96 : t486 ≥ (t483.length : Int)
                 ·rw [if_pos c96] at H
                  have c96b0 : decide ((t483.length : Int) ≤ t486) = true := decide_eq_true c96
                  clear c96
                  obtain rfl := Option.some.inj H
                  obtain ⟨Ao97, co97, eo97⟩ := Kd.N_slice HO_8.out
                  subst eo97
                  obtain ⟨Ao98, co98, eo98⟩ := Kd.N_slice HO_6.out
                  subst eo98
                  go_wp2_with (first | ((with_reducible refine gate_callee (f := 6) rfl ?_); refine goesL_ (some 74) rfl rfl Tryz.func6 (by kernel_rfl) rfl #[.slice Ao98 y504.length co98] rfl argx ?_; (with_reducible refine (impl_StmtsOk.calls _ _ y504 false _ ?side1 ?side2 A74.out).mono ?_); (case side1 => exact mC (Kd.N_reads' HO_6.out).2.2); (case side2 => exact (Kd.N_reads' HO_6.out).2.1); rintro e w99 ⟨rfl, hb⟩; refine ⟨_, rfl, ?_⟩; have n_ := az (Kd.N_below (mN HO_3.out) hb) <| az (Kd.N_below (mN HO_6.out) hb) <| az (Kd.N_below (mN HO_7.out) hb) <| az (Kd.N_below (mN HO_8.out) hb) <| az (bB BK494.out hb) <| z0 (below_step (mB HB.out) hb); clear HO_3 HO_6 HO_7 HO_8 BK494 HB; obtain ⟨HO_3, HO_6, HO_7, HO_8, BK494, HB⟩ := n_; clear hb; obtain ⟨Ao100, co100, eo100⟩ := Kd.N_slice HO_7.out; subst eo100) | (go_at_call 6; (with_reducible refine (impl_StmtsOk.calls _ _ y519 false _ ?side1 ?side2 A79.out).mono ?_); (case side1 => exact mC (Kd.N_reads' HO_7.out).2.2); (case side2 => exact (Kd.N_reads' HO_7.out).2.1); rintro e w101 ⟨rfl, hb⟩; have n_ := az (Kd.N_below (mN HO_3.out) hb) <| az (Kd.N_below (mN HO_6.out) hb) <| az (Kd.N_below (mN HO_7.out) hb) <| az (Kd.N_below (mN HO_8.out) hb) <| az (bB BK494.out hb) <| z0 (below_step (mB HB.out) hb); clear HO_3 HO_6 HO_7 HO_8 BK494 HB; obtain ⟨HO_3, HO_6, HO_7, HO_8, BK494, HB⟩ := n_; clear hb) | (go_at_call 6; (with_reducible refine (impl_StmtsOk.calls _ _ x8_2 false _ ?side1 ?side2 A86.out).mono ?_); (case side1 => exact mC (Kd.N_reads' HO_8.out).2.2); (case side2 => exact (Kd.N_reads' HO_8.out).2.1); rintro e w102 ⟨rfl, hb⟩; have n_ := az (Kd.N_below (mN HO_3.out) hb) <| az (Kd.N_below (mN HO_6.out) hb) <| az (Kd.N_below (mN HO_7.out) hb) <| az (Kd.N_below (mN HO_8.out) hb) <| az (bB BK494.out hb) <| z0 (below_step (mB HB.out) hb); clear HO_3 HO_6 HO_7 HO_8 BK494 HB; obtain ⟨HO_3, HO_6, HO_7, HO_8, BK494, HB⟩ := n_; clear hb) | (go_at_call 9; (with_reducible refine (impl_StmtsText.calls _ _ y504 t537 _ ?side1 ?side2 A94.out).mono ?_); (case side1 => exact mC (Kd.N_reads' HO_6.out).2.2); (case side2 => exact (Kd.N_reads' HO_6.out).2.1); rintro e w103 ⟨rfl, hb⟩; have n_ := az (Kd.N_below (mN HO_3.out) hb) <| az (Kd.N_below (mN HO_6.out) hb) <| az (Kd.N_below (mN HO_7.out) hb) <| az (Kd.N_below (mN HO_8.out) hb) <| az (bB BK494.out hb) <| z0 (below_step (mB HB.out) hb); clear HO_3 HO_6 HO_7 HO_8 BK494 HB; obtain ⟨HO_3, HO_6, HO_7, HO_8, BK494, HB⟩ := n_; clear hb))
                  go_ret
                  exact ⟨rfx, mB HB.out⟩
                 ·rw [if_neg c96] at H
                  have c96b0 : decide ((t483.length : Int) ≤ t486) = false := decide_eq_false c96
                  clear c96
                  obtain rfl := Option.some.inj H
                  obtain ⟨Ao104, co104, eo104⟩ := Kd.N_slice HO_8.out
                  subst eo104
                  obtain ⟨Ao105, co105, eo105⟩ := Kd.N_slice HO_6.out
                  subst eo105
                  go_wp2_with (first | ((with_reducible refine gate_callee (f := 6) rfl ?_); refine goesL_ (some 74) rfl rfl Tryz.func6 (by kernel_rfl) rfl #[.slice Ao105 y504.length co105] rfl argx ?_; (with_reducible refine (impl_StmtsOk.calls _ _ y504 false _ ?side1 ?side2 A74.out).mono ?_); (case side1 => exact mC (Kd.N_reads' HO_6.out).2.2); (case side2 => exact (Kd.N_reads' HO_6.out).2.1); rintro e w106 ⟨rfl, hb⟩; refine ⟨_, rfl, ?_⟩; have n_ := az (Kd.N_below (mN HO_3.out) hb) <| az (Kd.N_below (mN HO_6.out) hb) <| az (Kd.N_below (mN HO_7.out) hb) <| az (Kd.N_below (mN HO_8.out) hb) <| az (bB BK494.out hb) <| z0 (below_step (mB HB.out) hb); clear HO_3 HO_6 HO_7 HO_8 BK494 HB; obtain ⟨HO_3, HO_6, HO_7, HO_8, BK494, HB⟩ := n_; clear hb; obtain ⟨Ao107, co107, eo107⟩ := Kd.N_slice HO_7.out; subst eo107) | (go_at_call 6; (with_reducible refine (impl_StmtsOk.calls _ _ y519 false _ ?side1 ?side2 A79.out).mono ?_); (case side1 => exact mC (Kd.N_reads' HO_7.out).2.2); (case side2 => exact (Kd.N_reads' HO_7.out).2.1); rintro e w108 ⟨rfl, hb⟩; have n_ := az (Kd.N_below (mN HO_3.out) hb) <| az (Kd.N_below (mN HO_6.out) hb) <| az (Kd.N_below (mN HO_7.out) hb) <| az (Kd.N_below (mN HO_8.out) hb) <| az (bB BK494.out hb) <| z0 (below_step (mB HB.out) hb); clear HO_3 HO_6 HO_7 HO_8 BK494 HB; obtain ⟨HO_3, HO_6, HO_7, HO_8, BK494, HB⟩ := n_; clear hb) | (go_at_call 6; (with_reducible refine (impl_StmtsOk.calls _ _ x8_2 false _ ?side1 ?side2 A86.out).mono ?_); (case side1 => exact mC (Kd.N_reads' HO_8.out).2.2); (case side2 => exact (Kd.N_reads' HO_8.out).2.1); rintro e w109 ⟨rfl, hb⟩; have n_ := az (Kd.N_below (mN HO_3.out) hb) <| az (Kd.N_below (mN HO_6.out) hb) <| az (Kd.N_below (mN HO_7.out) hb) <| az (Kd.N_below (mN HO_8.out) hb) <| az (bB BK494.out hb) <| z0 (below_step (mB HB.out) hb); clear HO_3 HO_6 HO_7 HO_8 BK494 HB; obtain ⟨HO_3, HO_6, HO_7, HO_8, BK494, HB⟩ := n_; clear hb) | (go_at_call 9; (with_reducible refine (impl_StmtsText.calls _ _ y504 t537 _ ?side1 ?side2 A94.out).mono ?_); (case side1 => exact mC (Kd.N_reads' HO_6.out).2.2); (case side2 => exact (Kd.N_reads' HO_6.out).2.1); rintro e w110 ⟨rfl, hb⟩; have n_ := az (Kd.N_below (mN HO_3.out) hb) <| az (Kd.N_below (mN HO_6.out) hb) <| az (Kd.N_below (mN HO_7.out) hb) <| az (Kd.N_below (mN HO_8.out) hb) <| az (bB BK494.out hb) <| z0 (below_step (mB HB.out) hb); clear HO_3 HO_6 HO_7 HO_8 BK494 HB; obtain ⟨HO_3, HO_6, HO_7, HO_8, BK494, HB⟩ := n_; clear hb))
                  go_ret
                  exact ⟨rfx, mB HB.out⟩
                ·rw [if_neg c95] at H
                 have c95b0 : (t537.toList == ([] : List UInt8)) = false := beq_eq_false_iff_ne.mpr c95
                 have c95b1 : (t537.toList != ([] : List UInt8)) = true := bne_iff_ne.mpr c95
                 obtain rfl := Option.some.inj H
                 obtain ⟨Ao111, co111, eo111⟩ := Kd.N_slice HO_8.out
                 subst eo111
                 obtain ⟨Ao112, co112, eo112⟩ := Kd.N_slice HO_6.out
                 subst eo112
                 go_wp2_with (first | ((with_reducible refine gate_callee (f := 6) rfl ?_); refine goesL_ (some 74) rfl rfl Tryz.func6 (by kernel_rfl) rfl #[.slice Ao112 y504.length co112] rfl argx ?_; (with_reducible refine (impl_StmtsOk.calls _ _ y504 false _ ?side1 ?side2 A74.out).mono ?_); (case side1 => exact mC (Kd.N_reads' HO_6.out).2.2); (case side2 => exact (Kd.N_reads' HO_6.out).2.1); rintro e w113 ⟨rfl, hb⟩; refine ⟨_, rfl, ?_⟩; have n_ := az (Kd.N_below (mN HO_3.out) hb) <| az (Kd.N_below (mN HO_6.out) hb) <| az (Kd.N_below (mN HO_7.out) hb) <| az (Kd.N_below (mN HO_8.out) hb) <| az (bB BK494.out hb) <| z0 (below_step (mB HB.out) hb); clear HO_3 HO_6 HO_7 HO_8 BK494 HB; obtain ⟨HO_3, HO_6, HO_7, HO_8, BK494, HB⟩ := n_; clear hb; obtain ⟨Ao114, co114, eo114⟩ := Kd.N_slice HO_7.out; subst eo114) | (go_at_call 6; (with_reducible refine (impl_StmtsOk.calls _ _ y519 false _ ?side1 ?side2 A79.out).mono ?_); (case side1 => exact mC (Kd.N_reads' HO_7.out).2.2); (case side2 => exact (Kd.N_reads' HO_7.out).2.1); rintro e w115 ⟨rfl, hb⟩; have n_ := az (Kd.N_below (mN HO_3.out) hb) <| az (Kd.N_below (mN HO_6.out) hb) <| az (Kd.N_below (mN HO_7.out) hb) <| az (Kd.N_below (mN HO_8.out) hb) <| az (bB BK494.out hb) <| z0 (below_step (mB HB.out) hb); clear HO_3 HO_6 HO_7 HO_8 BK494 HB; obtain ⟨HO_3, HO_6, HO_7, HO_8, BK494, HB⟩ := n_; clear hb) | (go_at_call 6; (with_reducible refine (impl_StmtsOk.calls _ _ x8_2 false _ ?side1 ?side2 A86.out).mono ?_); (case side1 => exact mC (Kd.N_reads' HO_8.out).2.2); (case side2 => exact (Kd.N_reads' HO_8.out).2.1); rintro e w116 ⟨rfl, hb⟩; have n_ := az (Kd.N_below (mN HO_3.out) hb) <| az (Kd.N_below (mN HO_6.out) hb) <| az (Kd.N_below (mN HO_7.out) hb) <| az (Kd.N_below (mN HO_8.out) hb) <| az (bB BK494.out hb) <| z0 (below_step (mB HB.out) hb); clear HO_3 HO_6 HO_7 HO_8 BK494 HB; obtain ⟨HO_3, HO_6, HO_7, HO_8, BK494, HB⟩ := n_; clear hb) | (go_at_call 9; (with_reducible refine (impl_StmtsText.calls _ _ y504 t537 _ ?side1 ?side2 A94.out).mono ?_); (case side1 => exact mC (Kd.N_reads' HO_6.out).2.2); (case side2 => exact (Kd.N_reads' HO_6.out).2.1); rintro e w117 ⟨rfl, hb⟩; have n_ := az (Kd.N_below (mN HO_3.out) hb) <| az (Kd.N_below (mN HO_6.out) hb) <| az (Kd.N_below (mN HO_7.out) hb) <| az (Kd.N_below (mN HO_8.out) hb) <| az (bB BK494.out hb) <| z0 (below_step (mB HB.out) hb); clear HO_3 HO_6 HO_7 HO_8 BK494 HB; obtain ⟨HO_3, HO_6, HO_7, HO_8, BK494, HB⟩ := n_; clear hb))
                 go_ret
                 exact ⟨rfx, mB HB.out⟩
         ·rw [if_neg c38] at H
          exact absurd H (by simp)
        ·rw [if_neg c37] at H
         exact absurd H (by simp)
       ·rw [if_neg c36] at H
        exact absurd H (by simp)
      ·rw [if_neg c35] at H
       exact absurd H (by simp)
     ·rw [if_neg c34] at H
      exact absurd H (by simp)

/-- THE ONE PURE STATEMENT of laws_FnStmtsBent: yours. -/
def laws_FnStmtsBent.Pure : Prop := ∀ (l0 : List Int), l0.length ≤ maxLen → l0.length * 1 ≤ 140737488351232 → (∀ x ∈ l0, (Lit.int .u8 x).wf = true) → ∃ k, laws_FnStmtsBent.f k l0 = some true
theorem laws_FnStmtsBent.walk (P : laws_FnStmtsBent.Pure) (a0 : Option Addr) (len0 cap0 : Nat) (z0 : List Int) (w : World) (w0 : (a0 = none ∧ len0 = 0 ∧ cap0 = 0 ∧ z0 = []) ∨ ∃ x, a0 = some x ∧ len0 ≤ cap0 ∧ cap0 ≤ maxLen ∧ z0.length = cap0 ∧ (∀ i, i < z0.length → w.cell? (x.add i) = some (.int .u8 (z0.getD i 0))) ∧ ∀ n ∈ z0, (Lit.int .u8 n).wf = true) (y0 : len0 * 1 ≤ 140737488351232) :
  Calls Tryz.prog 3 #[.slice a0 len0 cap0] w fun e w' => e = .returned (.bool true) ∧ Below w.heap.size w w' := by
 obtain ⟨l0, rfl, hr0, hm0, hw0, hc0⟩ := ReadsInt.ofRowC w0
 obtain ⟨k, h⟩ := P l0 hm0 y0 hw0
 refine (laws_FnStmtsBent.calls k _ _ l0 true w (Kd.C_of_reads (d := (0 : Int)) (h1 := fun _ => rfl) hr0) hc0 h).mono ?_
 rintro e w' ⟨rfl, hd⟩
 exact ⟨rfl, hd⟩

end Go.Proofs.YtbckpgipehjgmaaGreat.B
