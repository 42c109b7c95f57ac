-- printed by base.py (this claim's tool) over the kit's print
import Derived.Test.YtddnijmgipffeaaB0
import Derived.Test.YtddnijmgipffeaaSq
import Derived.Test.YtddnijmgipffeaaPkA
import Derived.Test.YtddnijmgipffeaaPkB
import Derived.Test.YtddnijmgipffeaaZCode
import Derived.Test.YtddnijmgipffeaaPkE
namespace Go.Proofs.Ytddnijmgipffeaa.B
open Go.RowKit Go.Proofs.YtddnijmgipffeaaW.PrintWords Go.Proofs.YtddnijmgipffeaaW.PrintLast Go.Proofs.YtddnijmgipffeaaW.PrintMore
attribute [local go_sem] max2_int min2_int max_two min_two max_three min_three max_four min_four   -- for this text's walks alone
set_option linter.unusedVariables false
set_option linter.unusedSimpArgs false

attribute [local go_sem high] eqA39
/-! ### laws_FnCodeCat: function 4 -/
mutual
def laws_FnCodeCat.j0 : Nat → List Int → List Int → Bool → Option (Bool)
 | 0, _, _, _ => none
 | k + 1, x0, x1, x19 => if x19 = true then (some true) else ((spec_DrawCodeOf.f k x0).bind fun t690 => ((impl_CodeOf.f t690).bind fun t693 => ((spec_CodeOf.f k t690).bind fun t696 => ((impl_CodeSame.f k t693 t696).bind fun t699 => (if t699 = true then ((spec_StmtsOk.f k t690).bind fun t700 => (laws_FnCodeCat.j1 k x1 t690 t693 (!t700))) else (laws_FnCodeCat.j1 k x1 t690 t693 true))))))
def laws_FnCodeCat.j1 : Nat → List Int → List (S69) → List (S39) → Bool → Option (Bool)
 | 0, _, _, _, _ => none
 | k + 1, x1, x5, x6, x33 => if x33 = true then ((spec_CodeOf.f k x5).bind fun t701 => ((impl_CodeSame.f k x6 t701).bind fun t704 => (some t704))) else (if (wrap64 ((x5.length : Int) + 1)) = 0 then (none) else (if 0 ≤ ((x1.length : Int) % (wrap64 ((x5.length : Int) + 1))) then (if ((x1.length : Int) % (wrap64 ((x5.length : Int) + 1))) ≤ (x5.length : Int) then ((impl_CodeOf.f (x5.take (((x1.length : Int) % (wrap64 ((x5.length : Int) + 1))) : Int).toNat)).bind fun t710 => ((impl_CodeOf.f (x5.drop (((x1.length : Int) % (wrap64 ((x5.length : Int) + 1))) : Int).toNat)).bind fun t718 => (if (x6.length : Int) = (wrap64 ((t710.length : Int) + (t718.length : Int))) then (if 0 ≤ (t710.length : Int) then (if (t710.length : Int) ≤ (x6.length : Int) then ((impl_CodeSame.f k (x6.take ((t710.length : Int) : Int).toNat) t710).bind fun t726 => (laws_FnCodeCat.j2 k x6 t710 t718 (!t726))) else (none)) else (none)) else (laws_FnCodeCat.j2 k x6 t710 t718 true)))) else (none)) else (none)))
def laws_FnCodeCat.j2 : Nat → List (S39) → List (S39) → List (S39) → Bool → Option (Bool)
 | 0, _, _, _, _ => none
 | k + 1, x6, x8, x9, x68 => if x68 = true then (some false) else (laws_FnCodeCat.l0 k x6 x8 x9 0)
def laws_FnCodeCat.l0 : Nat → List (S39) → List (S39) → List (S39) → Int → Option (Bool)
 | 0, _, _, _, _ => none
 | k + 1, x6, x8, x9, x10 => if x10 < (x9.length : Int) then (if 0 ≤ x10 then (if ((rd_T39 x9 x10).f0) = 6 then (laws_FnCodeCat.j4 k x6 x8 x9 x10 true ((rd_T39 x9 x10).f0) ((rd_T39 x9 x10).f1) ((rd_T39 x9 x10).f2.f0) ((rd_T39 x9 x10).f2.f1)) else (if ((rd_T39 x9 x10).f0) = 7 then (laws_FnCodeCat.j4 k x6 x8 x9 x10 true ((rd_T39 x9 x10).f0) ((rd_T39 x9 x10).f1) ((rd_T39 x9 x10).f2.f0) ((rd_T39 x9 x10).f2.f1)) else (laws_FnCodeCat.j4 k x6 x8 x9 x10 (((rd_T39 x9 x10).f0) == 8) ((rd_T39 x9 x10).f0) ((rd_T39 x9 x10).f1) ((rd_T39 x9 x10).f2.f0) ((rd_T39 x9 x10).f2.f1)))) else (none)) else (some true)
def laws_FnCodeCat.j4 : Nat → List (S39) → List (S39) → List (S39) → Int → Bool → Int → Int → Int → Int → Option (Bool)
 | 0, _, _, _, _, _, _, _, _, _ => none
 | k + 1, x6, x8, x9, x10, x91, x729000, x729001, x729002, x729003 => if x91 = true then (if 0 ≤ (wrap64 ((x8.length : Int) + x10)) then (if (wrap64 ((x8.length : Int) + x10)) < (x6.length : Int) then (if (!(((rd_T39 x6 (wrap64 ((x8.length : Int) + x10))).f0) == x729000) || (!(((rd_T39 x6 (wrap64 ((x8.length : Int) + x10))).f1) == (wrap64 (x729001 + (x8.length : Int)))) || ((!(((rd_T39 x6 (wrap64 ((x8.length : Int) + x10))).f2.f0) == x729002) || (!(((rd_T39 x6 (wrap64 ((x8.length : Int) + x10))).f2.f1) == x729003)))))) = true then (some false) else (laws_FnCodeCat.l0 k x6 x8 x9 (wrap64 (x10 + 1)))) else (none)) else (none)) else (if 0 ≤ (wrap64 ((x8.length : Int) + x10)) then (if (wrap64 ((x8.length : Int) + x10)) < (x6.length : Int) then (if (!(((rd_T39 x6 (wrap64 ((x8.length : Int) + x10))).f0) == x729000) || (!(((rd_T39 x6 (wrap64 ((x8.length : Int) + x10))).f1) == x729001) || ((!(((rd_T39 x6 (wrap64 ((x8.length : Int) + x10))).f2.f0) == x729002) || (!(((rd_T39 x6 (wrap64 ((x8.length : Int) + x10))).f2.f1) == x729003)))))) = true then (some false) else (laws_FnCodeCat.l0 k x6 x8 x9 (wrap64 (x10 + 1)))) else (none)) else (none))
end
def laws_FnCodeCat.f (k : Nat) (l0 : List Int) (l1 : List Int) : Option (Bool) := if (l0.length : Int) > 1048576 then (laws_FnCodeCat.j0 k l0 l1 true) else (laws_FnCodeCat.j0 k l0 l1 (decide ((l1.length : Int) > 1048576)))
theorem q4_1 {p : Prop} (h : p := by first | (rw [add_block]; exact hn729_0) | (show (Addr.add _ _).block ≠ _; rw [add_block]; exact hn729_0) | exact hn729_0) : p := h
theorem q4_2 {p : Prop} (h : p := by first | (with_reducible assumption) | assumption) : p := h
theorem q4_3 {p : Prop} (h : p := by first | exact Kd.R_base ho0 | exact Kd.R_base ho0) : p := h
set_option maxHeartbeats 8000000 in
set_option maxRecDepth 100000 in
theorem laws_FnCodeCat.calls (k : Nat) (A0 : Option Addr) (c0 : Nat) (l0 : List Int) (A1 : Option Addr) (c1 : Nat) (l1 : List Int) (r : Bool) (w : World) (hr0 : Kd.C (Kd.int .u8) w A0 l0.length l0) (hc0 : l0.length ≤ c0) (hr1 : Kd.C (Kd.int .u8) w A1 l1.length l1) (hc1 : l1.length ≤ c1) (h : laws_FnCodeCat.f k l0 l1 = some r) :
  Calls Try.prog 4 #[.slice A0 l0.length c0, .slice A1 l1.length c1] w fun e w' => e = .returned (.bool r) ∧ Below w.heap.size w w' := by
 have hu39 := Try.underlying39
 have HR0 := z0 hr0
 have HC0 := z0 hc0
 clear hr0 hc0
 have HR1 := z0 hr1
 have HC1 := z0 hc1
 clear hr1 hc1
 have HB := z0 (Below.refl w.heap.size w)
 have H : (if (l0.length : Int) > 1048576 then (laws_FnCodeCat.j0 k l0 l1 true) else (laws_FnCodeCat.j0 k l0 l1 (decide ((l1.length : Int) > 1048576)))) = some r := h
 clear h
 have HC3 := z0 H
 clear H
 go_enter Try.func4, Try.ntmps4
 go_upto_region 1 with (fail)
 repeat (go_quiet (fail); go_upto_region 1 with (fail))
 go_cut [19] (fun v19 wc => ∃ (kq : Nat) (x19_2 : Bool), v19 = .bool x19_2 ∧ Aside0 (laws_FnCodeCat.j0 kq l0 l1 x19_2 = some r) ∧ Aside0 (kq ≤ k) ∧ Aside0 (Below w.heap.size w wc))
 case first =>
  have H := HC3.out
  clear HC3
  by_cases c4 : (l0.length : Int) > 1048576
  ·rw [if_pos c4] at H
   have c4b0 : decide (1048576 < (l0.length : Int)) = true := decide_eq_true c4
   have c4b1 : decide (1048576 < l0.length) = true := decide_eq_true (by omega)
   clear c4
   (first | rw [c4b0] | (simp only [i64_w, i32_w]; rw [c4b0]) | skip)
   have H' := z0 H
   clear H
   go_wp2
   repeat (go_quiet (fail); try go_wp2)
   go_meet
   case rel => exact ⟨_, (true), rfy, H', ⟨by first | omega | exact Nat.le_refl _⟩, ⟨mB HB.out⟩⟩
  ·rw [if_neg c4] at H
   have c4b0 : decide (1048576 < (l0.length : Int)) = false := decide_eq_false c4
   have c4b1 : decide (1048576 < l0.length) = false := decide_eq_false (by omega)
   clear c4
   (first | rw [c4b0] | (simp only [i64_w, i32_w]; rw [c4b0]) | skip)
   have H' := z0 H
   clear H
   go_wp2
   repeat (go_quiet (fail); try go_wp2)
   go_meet
   case rel => exact ⟨_, (decide ((l1.length : Int) > 1048576)), rfy, H', ⟨by first | omega | exact Nat.le_refl _⟩, ⟨mB HB.out⟩⟩
 case rest =>
  clear HC3
  (try clear c1)
  obtain ⟨kq, x19_2, rfl, HA, HJ2, HB⟩ := hcut
  cases kq with
  | zero => exact absurd HA.out (by simp [laws_FnCodeCat.j0])
  | succ kj2 =>
   have H := HA.out
   clear HA
   simp only [laws_FnCodeCat.j0] at H
   by_cases c5 : x19_2 = true
   ·subst c5
    have H1 : (some true) = some r := by rw [if_pos rfl] at H; exact H
    clear H
    have H := H1
    clear H1
    obtain rfl := Option.some.inj H
    go_wp2
    repeat (go_quiet (fail); try go_wp2)
    go_ret
    exact ⟨rfx, mB HB.out⟩
   ·replace c5 := Bool.eq_false_iff.mpr c5
    subst c5
    have H1 : ((spec_DrawCodeOf.f kj2 l0).bind fun t690 => ((impl_CodeOf.f t690).bind fun t693 => ((spec_CodeOf.f kj2 t690).bind fun t696 => ((impl_CodeSame.f kj2 t693 t696).bind fun t699 => (if t699 = true then ((spec_StmtsOk.f kj2 t690).bind fun t700 => (laws_FnCodeCat.j1 kj2 l1 t690 t693 (!t700))) else (laws_FnCodeCat.j1 kj2 l1 t690 t693 true)))))) = some r := by rw [if_neg (show ¬ (false = true) by decide)] at H; exact H
    clear H
    have H := H1
    clear H1
    replace H := Option.bind_eq_some_iff.mp H
    obtain ⟨t690, A60, H⟩ := H
    try dsimp only at H
    have A6 := z0 A60
    clear A60
    replace H := Option.bind_eq_some_iff.mp H
    obtain ⟨t693, A70, H⟩ := H
    try dsimp only at H
    have A7 := z0 A70
    clear A70
    have HC8 := z0 H
    clear H
    go_upto_region 5 with (first | (go_at_call 17; (with_reducible refine (spec_DrawCodeOf.calls kj2 _ _ l0 t690 _ ?side1 ?side2 A6.out).mono ?_); (case side1 => exact mC (Kd.C_below HR0.out HB.out)); (case side2 => exact HC0.out); rintro e w9 ⟨v691, rfl, ho0, hb⟩; have n_ := az (Kd.N_lower (Kd.N_mono (ok' := fun k_ => True) ho0 (fun k_ hk_ => trivial)) (below_size (mB HB.out))) <| z0 (below_step (mB HB.out) hb); clear HB; obtain ⟨HO692, HB⟩ := n_; clear hb ho0; obtain ⟨Ao10, co10, eo10⟩ := Kd.N_slice HO692.out; subst eo10) | (go_at_call 11; (with_reducible refine (impl_CodeOf.calls _ _ t690 t693 _ ?side1 ?side2 A7.out).mono ?_); (case side1 => exact mC (Kd.N_reads' HO692.out).2.2); (case side2 => exact (Kd.N_reads' HO692.out).2.1); rintro e w11 ⟨v694, rfl, ho0, hb⟩; have n_ := az (Kd.N_elder' (mN HO692.out) q4_3 hb) <| az (Kd.R_lower ho0 (below_size (mB HB.out))) <| z0 (below_step (mB HB.out) hb); clear HO692 HB; obtain ⟨HO692, HO695, HB⟩ := n_; clear hb ho0))
    (try simp only [Act.put, List.setIfInBounds_toArray, List.set_cons_zero, List.set_cons_succ])
    go_cut [33] (fun v33 wc => ∃ (kq : Nat) (x33_7 : Bool), v33 = .bool x33_7 ∧ Aside0 (laws_FnCodeCat.j1 kq l1 t690 t693 x33_7 = some r) ∧ Aside0 (kq ≤ kj2) ∧ Aside0 (Kd.N k69 69 wc w.heap.size (fun k_ => nB k_ v694) (.slice Ao10 t690.length co10) t690) ∧ Aside0 (Kd.R k39 39 wc w.heap.size (fun _ => True) v694 t693) ∧ Aside0 (Below w.heap.size w wc))
    case first =>
     have H := HC8.out
     clear HC8
     replace H := Option.bind_eq_some_iff.mp H
     obtain ⟨t696, A120, H⟩ := H
     try dsimp only at H
     have A12 := z0 A120
     clear A120
     replace H := Option.bind_eq_some_iff.mp H
     obtain ⟨t699, A130, H⟩ := H
     try dsimp only at H
     have A13 := z0 A130
     clear A130
     by_cases c14 : t699 = true
     ·subst c14
      have H1 : ((spec_StmtsOk.f kj2 t690).bind fun t700 => (laws_FnCodeCat.j1 kj2 l1 t690 t693 (!t700))) = some r := by rw [if_pos rfl] at H; exact H
      clear H
      have H := H1
      clear H1
      replace H := Option.bind_eq_some_iff.mp H
      obtain ⟨t700, A150, H⟩ := H
      try dsimp only at H
      have A15 := z0 A150
      clear A150
      have H' := z0 H
      clear H
      go_wp2_with (first | (go_at_call 9; (with_reducible refine (spec_CodeOf.calls kj2 _ _ t690 t696 _ ?side1 ?side2 A12.out).mono ?_); (case side1 => exact mC (Kd.N_reads' HO692.out).2.2); (case side2 => exact (Kd.N_reads' HO692.out).2.1); rintro e w16 ⟨v697, rfl, ho0, hb⟩; have n_ := az (Kd.N_elder' (mN HO692.out) q4_3 hb) <| az (Kd.R_elder' (mR HO695.out) q4_3 hb) <| az (Kd.R_lower (Kd.R_new' ho0 (Kd.R_lt (mR HO695.out))) (below_size (mB HB.out))) <| z0 (below_step (mB HB.out) hb); clear HO692 HO695 HB; obtain ⟨HO692, HO695, HO698, HB⟩ := n_; clear hb ho0; obtain ⟨Ao17, co17, eo17⟩ := Kd.R_slice HO695.out; subst eo17; obtain ⟨Ao18, co18, eo18⟩ := Kd.R_slice HO698.out; subst eo18) | (go_at_call 18; (with_reducible refine (impl_CodeSame.calls kj2 _ _ t693 _ _ t696 true _ ?side1 ?side2 ?side3 ?side4 A13.out).mono ?_); (case side1 => exact mC (Kd.R_reads' HO695.out).2.2); (case side2 => exact (Kd.R_reads' HO695.out).2.1); (case side3 => exact mC (Kd.R_reads' HO698.out).2.2); (case side4 => exact (Kd.R_reads' HO698.out).2.1); rintro e w' ⟨rfl, ⟨nd, rfl⟩⟩; (try first | exact ⟨rfl, _, World.drewN_drewN _ _ _⟩ | exact ⟨rfl, _, Eq.trans (World.drewN_drewN _ _ _) (congrArg (World.drewN _) (Nat.add_assoc _ _ _))⟩)) | (go_at_call 19; (with_reducible refine (spec_StmtsOk.calls kj2 _ _ t690 t700 _ ?side1 ?side2 A15.out).mono ?_); (case side1 => exact mC (Kd.N_reads' HO692.out).2.2); (case side2 => exact (Kd.N_reads' HO692.out).2.1); rintro e w19 ⟨rfl, hb⟩; have n_ := az (Kd.N_below (mN HO692.out) hb) <| az (Kd.R_below (mR HO695.out) hb) <| az (Kd.R_below (mR HO698.out) hb) <| z0 (below_step (mB HB.out) hb); clear HO692 HO695 HO698 HB; obtain ⟨HO692, HO695, HO698, HB⟩ := n_; clear hb))
      go_meet
      case rel => exact ⟨_, (!t700), rfy, H', ⟨by have := HJ2.out; first | omega | exact Nat.le_refl _⟩, ⟨by (with_reducible repeat (first | apply Kd.N_alloc | apply Kd.N_drewN | apply Kd.N_drew)); exact Kd.N_mono HO692.out (fun _ hk => hk.1.2)⟩, ⟨by (with_reducible repeat (first | apply Kd.R_alloc | apply Kd.R_drewN | apply Kd.R_drew)); exact Kd.R_mono HO695.out (fun _ hk => trivial)⟩, ⟨mB HB.out⟩⟩
     ·replace c14 := Bool.eq_false_iff.mpr c14
      subst c14
      have H1 : (laws_FnCodeCat.j1 kj2 l1 t690 t693 true) = some r := by rw [if_neg (show ¬ (false = true) by decide)] at H; exact H
      clear H
      have H := H1
      clear H1
      have H' := z0 H
      clear H
      go_wp2_with (first | (go_at_call 9; (with_reducible refine (spec_CodeOf.calls kj2 _ _ t690 t696 _ ?side1 ?side2 A12.out).mono ?_); (case side1 => exact mC (Kd.N_reads' HO692.out).2.2); (case side2 => exact (Kd.N_reads' HO692.out).2.1); rintro e w20 ⟨v697, rfl, ho0, hb⟩; have n_ := az (Kd.N_elder' (mN HO692.out) q4_3 hb) <| az (Kd.R_elder' (mR HO695.out) q4_3 hb) <| az (Kd.R_lower (Kd.R_new' ho0 (Kd.R_lt (mR HO695.out))) (below_size (mB HB.out))) <| z0 (below_step (mB HB.out) hb); clear HO692 HO695 HB; obtain ⟨HO692, HO695, HO698, HB⟩ := n_; clear hb ho0; obtain ⟨Ao21, co21, eo21⟩ := Kd.R_slice HO695.out; subst eo21; obtain ⟨Ao22, co22, eo22⟩ := Kd.R_slice HO698.out; subst eo22) | (go_at_call 18; (with_reducible refine (impl_CodeSame.calls kj2 _ _ t693 _ _ t696 false _ ?side1 ?side2 ?side3 ?side4 A13.out).mono ?_); (case side1 => exact mC (Kd.R_reads' HO695.out).2.2); (case side2 => exact (Kd.R_reads' HO695.out).2.1); (case side3 => exact mC (Kd.R_reads' HO698.out).2.2); (case side4 => exact (Kd.R_reads' HO698.out).2.1); rintro e w' ⟨rfl, ⟨nd, rfl⟩⟩; (try first | exact ⟨rfl, _, World.drewN_drewN _ _ _⟩ | exact ⟨rfl, _, Eq.trans (World.drewN_drewN _ _ _) (congrArg (World.drewN _) (Nat.add_assoc _ _ _))⟩)))
      go_meet
      case rel => exact ⟨_, (true), rfy, H', ⟨by have := HJ2.out; first | omega | exact Nat.le_refl _⟩, ⟨by (with_reducible repeat (first | apply Kd.N_alloc | apply Kd.N_drewN | apply Kd.N_drew)); exact Kd.N_mono HO692.out (fun _ hk => hk.1.2)⟩, ⟨by (with_reducible repeat (first | apply Kd.R_alloc | apply Kd.R_drewN | apply Kd.R_drew)); exact Kd.R_mono HO695.out (fun _ hk => trivial)⟩, ⟨mB HB.out⟩⟩
    case rest =>
     clear HC8
     (try clear c1); (try clear c5)
     obtain ⟨kq, x33_7, rfl, HA, HJ7, HO_5, HO_6, HB⟩ := hcut
     cases kq with
     | zero => exact absurd HA.out (by simp [laws_FnCodeCat.j1])
     | succ kj7 =>
      have H := HA.out
      clear HA
      simp only [laws_FnCodeCat.j1] at H
      by_cases c23 : x33_7 = true
      ·subst c23
       have H1 : ((spec_CodeOf.f kj7 t690).bind fun t701 => ((impl_CodeSame.f kj7 t693 t701).bind fun t704 => (some t704))) = some r := by rw [if_pos rfl] at H; exact H
       clear H
       have H := H1
       clear H1
       replace H := Option.bind_eq_some_iff.mp H
       obtain ⟨t701, A240, H⟩ := H
       try dsimp only at H
       have A24 := z0 A240
       clear A240
       replace H := Option.bind_eq_some_iff.mp H
       obtain ⟨t704, A250, H⟩ := H
       try dsimp only at H
       have A25 := z0 A250
       clear A250
       obtain rfl := Option.some.inj H
       go_wp2_with (first | (go_at_call 9; (with_reducible refine (spec_CodeOf.calls kj7 _ _ t690 t701 _ ?side1 ?side2 A24.out).mono ?_); (case side1 => exact mC (Kd.N_reads' HO_5.out).2.2); (case side2 => exact (Kd.N_reads' HO_5.out).2.1); rintro e w26 ⟨v702, rfl, ho0, hb⟩; have n_ := az (Kd.N_elder' (mN HO_5.out) q4_3 hb) <| az (Kd.R_elder' (mR HO_6.out) q4_3 hb) <| az (Kd.R_lower (Kd.R_new' ho0 (Kd.R_lt (mR HO_6.out))) (below_size (mB HB.out))) <| z0 (below_step (mB HB.out) hb); clear HO_5 HO_6 HB; obtain ⟨HO_5, HO_6, HO703, HB⟩ := n_; clear hb ho0; obtain ⟨Ao27, co27, eo27⟩ := Kd.R_slice HO_6.out; subst eo27; obtain ⟨Ao28, co28, eo28⟩ := Kd.R_slice HO703.out; subst eo28) | (go_at_call 18; (with_reducible refine (impl_CodeSame.calls kj7 _ _ t693 _ _ t701 t704 _ ?side1 ?side2 ?side3 ?side4 A25.out).mono ?_); (case side1 => exact mC (Kd.R_reads' HO_6.out).2.2); (case side2 => exact (Kd.R_reads' HO_6.out).2.1); (case side3 => exact mC (Kd.R_reads' HO703.out).2.2); (case side4 => exact (Kd.R_reads' HO703.out).2.1); rintro e w' ⟨rfl, ⟨nd, rfl⟩⟩; (try first | exact ⟨rfl, _, World.drewN_drewN _ _ _⟩ | exact ⟨rfl, _, Eq.trans (World.drewN_drewN _ _ _) (congrArg (World.drewN _) (Nat.add_assoc _ _ _))⟩)))
       go_ret
       exact ⟨rfx, mB HB.out⟩
      ·replace c23 := Bool.eq_false_iff.mpr c23
       subst c23
       have H1 : (if (wrap64 ((t690.length : Int) + 1)) = 0 then (none) else (if 0 ≤ ((l1.length : Int) % (wrap64 ((t690.length : Int) + 1))) then (if ((l1.length : Int) % (wrap64 ((t690.length : Int) + 1))) ≤ (t690.length : Int) then ((impl_CodeOf.f (t690.take (((l1.length : Int) % (wrap64 ((t690.length : Int) + 1))) : Int).toNat)).bind fun t710 => ((impl_CodeOf.f (t690.drop (((l1.length : Int) % (wrap64 ((t690.length : Int) + 1))) : Int).toNat)).bind fun t718 => (if (t693.length : Int) = (wrap64 ((t710.length : Int) + (t718.length : Int))) then (if 0 ≤ (t710.length : Int) then (if (t710.length : Int) ≤ (t693.length : Int) then ((impl_CodeSame.f kj7 (t693.take ((t710.length : Int) : Int).toNat) t710).bind fun t726 => (laws_FnCodeCat.j2 kj7 t693 t710 t718 (!t726))) else (none)) else (none)) else (laws_FnCodeCat.j2 kj7 t693 t710 t718 true)))) else (none)) else (none))) = some r := by rw [if_neg (show ¬ (false = true) by decide)] at H; exact H
       clear H
       have H := H1
       clear H1
       by_cases c29 : (wrap64 ((t690.length : Int) + 1)) = 0
       ·rw [if_pos c29] at H
        exact absurd H (by simp)
       ·rw [if_neg c29] at H
        have c29b0 : ((wrap64 ((t690.length : Int) + 1)) == 0) = false := beq_eq_false_iff_ne.mpr c29
        have c29b1 : ((wrap64 ((t690.length : Int) + 1)) != 0) = true := bne_iff_ne.mpr c29
        obtain ⟨ji30, hji30⟩ : ∃ j_ : Int, ((l1.length : Int) % (wrap64 ((t690.length : Int) + 1))) = j_ := ⟨_, rfl⟩
        replace H : (if 0 ≤ (ji30) then (if (ji30) ≤ (t690.length : Int) then ((impl_CodeOf.f (t690.take ((ji30) : Int).toNat)).bind fun t710 => ((impl_CodeOf.f (t690.drop ((ji30) : Int).toNat)).bind fun t718 => (if (t693.length : Int) = (wrap64 ((t710.length : Int) + (t718.length : Int))) then (if 0 ≤ (t710.length : Int) then (if (t710.length : Int) ≤ (t693.length : Int) then ((impl_CodeSame.f kj7 (t693.take ((t710.length : Int) : Int).toNat) t710).bind fun t726 => (laws_FnCodeCat.j2 kj7 t693 t710 t718 (!t726))) else (none)) else (none)) else (laws_FnCodeCat.j2 kj7 t693 t710 t718 true)))) else (none)) else (none)) = some r := by first | (rw [hji30] at H; exact H) | (simp only [hji30] at H ⊢; exact H)
        by_cases c31 : 0 ≤ (ji30)
        ·rw [if_pos c31] at H
         have c31b0 := eq_true c31
         have c31b1 : decide (0 ≤ (ji30)) = true := decide_eq_true c31
         clear c31
         by_cases c32 : (ji30) ≤ (t690.length : Int)
         ·rw [if_pos c32] at H
          have c32b0 := eq_true c32
          have c32b1 : decide ((ji30) ≤ (t690.length : Int)) = true := decide_eq_true c32
          clear c32
          obtain ⟨y705, hy705⟩ : ∃ y_ : List (S69), y_ = (t690.take ((ji30) : Int).toNat) := ⟨_, rfl⟩
          replace H : ((impl_CodeOf.f y705).bind fun t710 => ((impl_CodeOf.f (t690.drop ((ji30) : Int).toNat)).bind fun t718 => (if (t693.length : Int) = (wrap64 ((t710.length : Int) + (t718.length : Int))) then (if 0 ≤ (t710.length : Int) then (if (t710.length : Int) ≤ (t693.length : Int) then ((impl_CodeSame.f kj7 (t693.take ((t710.length : Int) : Int).toNat) t710).bind fun t726 => (laws_FnCodeCat.j2 kj7 t693 t710 t718 (!t726))) else (none)) else (none)) else (laws_FnCodeCat.j2 kj7 t693 t710 t718 true)))) = some r := by first | (rw [hy705]; with_reducible exact H) | (have H2_ := (Option.bind_some _ _).symm.trans H; rw [hy705]; with_reducible exact H2_) | (have H2_ := (Option.bind_some _ _).symm.trans H; with_reducible exact H2_) | with_reducible exact H | (rw [hy705]; exact H) | exact H
          have Ny705 := z0 hy705
          clear hy705
          replace H := Option.bind_eq_some_iff.mp H
          obtain ⟨t710, A330, H⟩ := H
          try dsimp only at H
          have A33 := z0 A330
          clear A330
          have c34b0 := eq_true (of_decide_eq_true q4_2 : 0 ≤ (ji30))
          have c35b0 := eq_true (of_decide_eq_true q4_2 : (ji30) ≤ (t690.length : Int))
          obtain ⟨y713, hy713⟩ : ∃ y_ : List (S69), y_ = (t690.drop ((ji30) : Int).toNat) := ⟨_, rfl⟩
          replace H : ((impl_CodeOf.f y713).bind fun t718 => (if (t693.length : Int) = (wrap64 ((t710.length : Int) + (t718.length : Int))) then (if 0 ≤ (t710.length : Int) then (if (t710.length : Int) ≤ (t693.length : Int) then ((impl_CodeSame.f kj7 (t693.take ((t710.length : Int) : Int).toNat) t710).bind fun t726 => (laws_FnCodeCat.j2 kj7 t693 t710 t718 (!t726))) else (none)) else (none)) else (laws_FnCodeCat.j2 kj7 t693 t710 t718 true))) = some r := by first | (rw [hy713]; with_reducible exact H) | (have H2_ := (Option.bind_some _ _).symm.trans H; rw [hy713]; with_reducible exact H2_) | (have H2_ := (Option.bind_some _ _).symm.trans H; with_reducible exact H2_) | with_reducible exact H | (rw [hy713]; exact H) | exact H
          have Ny713 := z0 hy713
          clear hy713
          replace H := Option.bind_eq_some_iff.mp H
          obtain ⟨t718, A360, H⟩ := H
          try dsimp only at H
          have A36 := z0 A360
          clear A360
          have HC37 := z0 H
          clear H
          have q38 : ((ji30) : Int) ≤ ((t690.length : Int) : Int) := of_decide_eq_true q4_2
          obtain ⟨i038, hi038, _, hsz38, _⟩ := info_parts info69
          have hroom38 : t690.length ≤ co10 := (Kd.N_reads' HO_5.out).2.1
          have hC38 : Kd.F k69 _ _ Ao10 t690.length t690 := (Kd.V_at (base := w.heap.size) (Kd.N_V HO_5.out)).2.2
          have hcut38 := cut_to (P := Try.prog) 26 69 .i64 Try.underlying26 hi038 Ao10 t690.length co10 (ji30) (of_decide_eq_true q4_2) q38 hroom38
          have hr38 := Kd.F_take (m := ((ji30) : Int).toNat) hC38 (by omega)
          have hy38 : y705.length = ((ji30) : Int).toNat := (by rw [Ny705.out, List.length_take]; omega)
          rw [← Ny705.out] at hr38
          rw [← hy38] at hcut38
          have HO709 := z0 (show Kd.V k69 69 _ w.heap.size _ (.slice Ao10 y705.length co10) y705 from Kd.V_mk (by omega) hr38)
          have HC709 := z0 (show y705.length ≤ co10 from by omega)
          clear hr38 hC38 hroom38 hi038 hsz38
          have KY38 := z0 hy38
          clear hy38
          replace q38 := eq_true q38
          go_upto_region 10 with (first | (go_at_call 11; (with_reducible refine (impl_CodeOf.calls _ _ y705 t710 _ ?side1 ?side2 A33.out).mono ?_); (case side1 => exact mC (Kd.V_reads' HO709.out).2.2); (case side2 => exact (Kd.V_reads' HO709.out).2.1); rintro e w39 ⟨v711, rfl, ho0, hb⟩; have n_ := az (Kd.N_elder' (mN HO_5.out) q4_3 hb) <| az (Kd.R_elder' (mR HO_6.out) q4_3 hb) <| az (Kd.V_elder' (mV HO709.out) q4_3 hb) <| az (Kd.R_lower (Kd.R_new' ho0 (Kd.R_lt (mR HO_6.out))) (below_size (mB HB.out))) <| z0 (below_step (mB HB.out) hb); clear HO_5 HO_6 HO709 HB; obtain ⟨HO_5, HO_6, HO709, HO712, HB⟩ := n_; clear hb ho0; have q40 : ((ji30) : Int) ≤ ((t690.length : Int) : Int) := of_decide_eq_true q4_2; obtain ⟨i040, hi040, _, hsz40, _⟩ := info_parts info69; have hroom40 : t690.length ≤ co10 := (Kd.N_reads' HO_5.out).2.1; have hC40 : Kd.F k69 _ _ Ao10 t690.length t690 := (Kd.V_at (base := w.heap.size) (Kd.N_V HO_5.out)).2.2; have q040 : (0 : Int) ≤ ((ji30) : Int) := of_decide_eq_true q4_2; have hcut40 := cut_from (P := Try.prog) 26 69 .i64 Try.underlying26 hi040 10 hsz40 Ao10 t690.length co10 (ji30) q040 q40; have hr40 := Kd.F_cut (m := ((ji30) : Int).toNat) (c := co10) hC40 (by omega) hroom40; obtain ⟨A40, hA40⟩ : ∃ A1, A1 = (if co10 = ((ji30) : Int).toNat then Ao10 else (Ao10 : Option Addr).map (·.add (((ji30) : Int).toNat * 10))) := ⟨_, rfl⟩; obtain ⟨c40, hc40⟩ : ∃ c1, c1 = co10 - ((ji30) : Int).toNat := ⟨_, rfl⟩; have hy40 : y713.length = t690.length - ((ji30) : Int).toNat := (by rw [Ny713.out, List.length_drop] <;> omega); rw [show (t690).drop ((ji30) : Int).toNat = y713 from Ny713.out.symm] at hr40; replace hr40 : Kd.F k69 _ _ A40 y713.length y713 := (by rw [hA40]; exact hr40); rw [← hy40, ← hA40, ← hc40] at hcut40; have HO717 := z0 (show Kd.V k69 69 _ w.heap.size _ (.slice A40 y713.length c40) y713 from Kd.V_mk (by rw [hy40, hc40]; exact Nat.sub_le_sub_right hroom40 _) hr40); have HC717 := z0 (show y713.length ≤ c40 from by rw [hy40, hc40]; exact Nat.sub_le_sub_right hroom40 _); clear hr40 hC40 hroom40 hi040 hsz40 hc40; have KY40 := z0 hy40; have KA40 := z0 hA40; clear hy40 hA40; replace q40 := eq_true q40) | (go_at_call 11; (with_reducible refine (impl_CodeOf.calls _ _ y713 t718 _ ?side1 ?side2 A36.out).mono ?_); (case side1 => exact mC (Kd.V_reads' HO717.out).2.2); (case side2 => exact (Kd.V_reads' HO717.out).2.1); rintro e w41 ⟨v719, rfl, ho0, hb⟩; have n_ := az (Kd.N_elder' (mN HO_5.out) q4_3 hb) <| az (Kd.R_elder' (mR HO_6.out) q4_3 hb) <| az (Kd.V_elder' (mV HO709.out) q4_3 hb) <| az (Kd.R_elder' (mR HO712.out) q4_3 hb) <| az (Kd.V_elder' (mV HO717.out) q4_3 hb) <| az (Kd.R_lower (Kd.R_new' (Kd.R_new' ho0 (Kd.R_lt (mR HO_6.out))) (Kd.R_lt (mR HO712.out))) (below_size (mB HB.out))) <| z0 (below_step (mB HB.out) hb); clear HO_5 HO_6 HO709 HO712 HO717 HB; obtain ⟨HO_5, HO_6, HO709, HO712, HO717, HO720, HB⟩ := n_; clear hb ho0))
          (try simp only [Act.put, List.setIfInBounds_toArray, List.set_cons_zero, List.set_cons_succ])
          go_cut [68] (fun v68 wc => ∃ (kq : Nat) (x68_36 : Bool), v68 = .bool x68_36 ∧ Aside0 (laws_FnCodeCat.j2 kq t693 t710 t718 x68_36 = some r) ∧ Aside0 (kq ≤ kj7) ∧ Aside0 (Kd.R k39 39 wc w.heap.size (fun k_ => nB k_ v711 ∧ nB k_ v719) v694 t693) ∧ Aside0 (Kd.R k39 39 wc w.heap.size (fun k_ => nB k_ v694 ∧ nB k_ v719) v711 t710) ∧ Aside0 (Kd.R k39 39 wc w.heap.size (fun k_ => nB k_ v694 ∧ nB k_ v711) v719 t718) ∧ Aside0 (Below w.heap.size w wc))
          case first =>
           have H := HC37.out
           clear HC37
           by_cases c42 : (t693.length : Int) = (wrap64 ((t710.length : Int) + (t718.length : Int)))
           ·rw [if_pos c42] at H
            have c42b0 : ((t693.length : Int) == (wrap64 ((t710.length : Int) + (t718.length : Int)))) = true := beq_iff_eq.mpr c42
            have c42b1 : ((t693.length : Int) != (wrap64 ((t710.length : Int) + (t718.length : Int)))) = false := bne_eq_false_iff_eq.mpr c42
            clear c42
            (first | rw [c42b0] | (simp only [i64_w, i32_w]; rw [c42b0]) | skip)
            by_cases c43 : 0 ≤ (t710.length : Int)
            ·rw [if_pos c43] at H
             have c43b0 := eq_true c43
             have c43b1 : decide (0 ≤ (t710.length : Int)) = true := decide_eq_true c43
             clear c43
             by_cases c44 : (t710.length : Int) ≤ (t693.length : Int)
             ·rw [if_pos c44] at H
              have c44b0 := eq_true c44
              have c44b1 : decide ((t710.length : Int) ≤ (t693.length : Int)) = true := decide_eq_true c44
              clear c44
              obtain ⟨y721, hy721⟩ : ∃ y_ : List (S39), y_ = (t693.take ((t710.length : Int) : Int).toNat) := ⟨_, rfl⟩
              replace H : ((impl_CodeSame.f kj7 y721 t710).bind fun t726 => (laws_FnCodeCat.j2 kj7 t693 t710 t718 (!t726))) = some r := by first | (rw [hy721]; with_reducible exact H) | (have H2_ := (Option.bind_some _ _).symm.trans H; rw [hy721]; with_reducible exact H2_) | (have H2_ := (Option.bind_some _ _).symm.trans H; with_reducible exact H2_) | with_reducible exact H | (rw [hy721]; exact H) | exact H
              have Ny721 := z0 hy721
              clear hy721
              replace H := Option.bind_eq_some_iff.mp H
              obtain ⟨t726, A450, H⟩ := H
              try dsimp only at H
              have A45 := z0 A450
              clear A450
              have H' := z0 H
              clear H
              obtain ⟨Ao46, co46, eo46⟩ := Kd.R_slice HO_6.out
              subst eo46
              obtain ⟨Ao47, co47, eo47⟩ := Kd.R_slice HO712.out
              subst eo47
              obtain ⟨Ao48, co48, eo48⟩ := Kd.R_slice HO720.out
              subst eo48
              have q49 : ((t710.length : Int) : Int) ≤ ((t693.length : Int) : Int) := of_decide_eq_true q4_2
              obtain ⟨i049, hi049, _, hsz49, _⟩ := info_parts info39
              have hroom49 : t693.length ≤ co46 := (Kd.R_reads' HO_6.out).2.1
              have hC49 : Kd.F k39 _ _ Ao46 t693.length t693 := (Kd.V_at (base := w.heap.size) (Kd.R_V (Kd.R_apart' (HO_6.out) (Kd.N_typed HO_5.out) (by decide)))).2.2
              have hcut49 := cut_to (P := Try.prog) 24 39 .i64 Try.underlying24 hi049 Ao46 t693.length co46 (t710.length : Int) (of_decide_eq_true q4_2) q49 hroom49
              have hr49 := Kd.F_take (m := ((t710.length : Int) : Int).toNat) hC49 (by omega)
              have hy49 : y721.length = ((t710.length : Int) : Int).toNat := (by rw [Ny721.out, List.length_take]; omega)
              rw [← Ny721.out] at hr49
              rw [← hy49] at hcut49
              have HO725 := z0 (show Kd.V k39 39 _ w.heap.size _ (.slice Ao46 y721.length co46) y721 from Kd.V_mk (by omega) hr49)
              have HC725 := z0 (show y721.length ≤ co46 from by omega)
              clear hr49 hC49 hroom49 hi049 hsz49
              have KY49 := z0 hy49
              clear hy49
              replace q49 := eq_true q49
              go_wp2_with (first | (go_at_call 18; (with_reducible refine (impl_CodeSame.calls kj7 _ _ y721 _ _ t710 t726 _ ?side1 ?side2 ?side3 ?side4 A45.out).mono ?_); (case side1 => exact mC (Kd.V_reads' HO725.out).2.2); (case side2 => exact (Kd.V_reads' HO725.out).2.1); (case side3 => exact mC (Kd.R_reads' HO712.out).2.2); (case side4 => exact (Kd.R_reads' HO712.out).2.1); rintro e w' ⟨rfl, ⟨nd, rfl⟩⟩; (try first | exact ⟨rfl, _, World.drewN_drewN _ _ _⟩ | exact ⟨rfl, _, Eq.trans (World.drewN_drewN _ _ _) (congrArg (World.drewN _) (Nat.add_assoc _ _ _))⟩)))
              go_meet
              case rel => exact ⟨_, (!t726), rfy, H', ⟨by have := HJ2.out; have := HJ7.out; first | omega | exact Nat.le_refl _⟩, ⟨by (with_reducible repeat (first | apply Kd.R_alloc | apply Kd.R_drewN | apply Kd.R_drew)); exact Kd.R_mono HO_6.out (fun _ hk => ⟨hk.1.2, hk.2⟩)⟩, ⟨by (with_reducible repeat (first | apply Kd.R_alloc | apply Kd.R_drewN | apply Kd.R_drew)); exact Kd.R_mono HO712.out (fun _ hk => ⟨hk.1.2, hk.2⟩)⟩, ⟨by (with_reducible repeat (first | apply Kd.R_alloc | apply Kd.R_drewN | apply Kd.R_drew)); exact Kd.R_mono HO720.out (fun _ hk => ⟨hk.1.2, hk.2⟩)⟩, ⟨mB HB.out⟩⟩
             ·rw [if_neg c44] at H
              exact absurd H (by simp)
            ·rw [if_neg c43] at H
             exact absurd H (by simp)
           ·rw [if_neg c42] at H
            have c42b0 : ((t693.length : Int) == (wrap64 ((t710.length : Int) + (t718.length : Int)))) = false := beq_eq_false_iff_ne.mpr c42
            have c42b1 : ((t693.length : Int) != (wrap64 ((t710.length : Int) + (t718.length : Int)))) = true := bne_iff_ne.mpr c42
            (first | rw [c42b0] | (simp only [i64_w, i32_w]; rw [c42b0]) | skip)
            have H' := z0 H
            clear H
            obtain ⟨Ao50, co50, eo50⟩ := Kd.R_slice HO_6.out
            subst eo50
            obtain ⟨Ao51, co51, eo51⟩ := Kd.R_slice HO712.out
            subst eo51
            obtain ⟨Ao52, co52, eo52⟩ := Kd.R_slice HO720.out
            subst eo52
            go_wp2
            repeat (go_quiet (fail); try go_wp2)
            go_meet
            case rel => exact ⟨_, (true), rfy, H', ⟨by have := HJ2.out; have := HJ7.out; first | omega | exact Nat.le_refl _⟩, ⟨by (with_reducible repeat (first | apply Kd.R_alloc | apply Kd.R_drewN | apply Kd.R_drew)); exact Kd.R_mono HO_6.out (fun _ hk => ⟨hk.1.2, hk.2⟩)⟩, ⟨by (with_reducible repeat (first | apply Kd.R_alloc | apply Kd.R_drewN | apply Kd.R_drew)); exact Kd.R_mono HO712.out (fun _ hk => ⟨hk.1.2, hk.2⟩)⟩, ⟨by (with_reducible repeat (first | apply Kd.R_alloc | apply Kd.R_drewN | apply Kd.R_drew)); exact Kd.R_mono HO720.out (fun _ hk => ⟨hk.1.2, hk.2⟩)⟩, ⟨mB HB.out⟩⟩
          case rest =>
           clear HC37
           (try clear c1); (try clear c5); (try clear c23); (try clear c29); (try clear c29b0); (try clear c29b1); (try clear c31); (try clear c31b0); (try clear c31b1); (try clear c32); (try clear c32b0); (try clear c32b1); (try clear c34b0); (try clear c35b0); (try clear q38); (try clear c40); (try clear q40); (try clear q040); (try clear q38); (try clear q40)
           obtain ⟨kq, x68_36, rfl, HA, HJ36, HO_6, HO_8, HO_9, HB⟩ := hcut
           cases kq with
           | zero => exact absurd HA.out (by simp [laws_FnCodeCat.j2])
           | succ kj36 =>
            have H := HA.out
            clear HA
            simp only [laws_FnCodeCat.j2] at H
            by_cases c53 : x68_36 = true
            ·subst c53
             have H1 : (some false) = some r := by rw [if_pos rfl] at H; exact H
             clear H
             have H := H1
             clear H1
             obtain rfl := Option.some.inj H
             go_wp2
             repeat (go_quiet (fail); try go_wp2)
             go_ret
             exact ⟨by first | rfl | (simp [errW_none, errW_some] <;> rfl) | (simp only [← hji30]; first | rfl | (simp [errW_none, errW_some] <;> rfl)) | (simp [*, errW_none, errW_some] <;> rfl), mB HB.out⟩
            ·replace c53 := Bool.eq_false_iff.mpr c53
             subst c53
             have H1 : (laws_FnCodeCat.l0 kj36 t693 t710 t718 0) = some r := by rw [if_neg (show ¬ (false = true) by decide)] at H; exact H
             clear H
             have H := H1
             clear H1
             have H' := z0 H
             clear H
             go_wp2
             repeat (go_quiet (fail); try go_wp2)
             go_loopg [10] kj36 (fun kq v10 w' => ∃ (x10_4 : Int), v10 = .int .i64 x10_4 ∧ Aside0 (laws_FnCodeCat.l0 kq t693 t710 t718 x10_4 = some r) ∧ Aside0 (kq ≤ kj36) ∧ Aside0 (Kd.R k39 39 w' w.heap.size (fun k_ => nB k_ v711 ∧ nB k_ v719) v694 t693) ∧ Aside0 (Kd.R k39 39 w' w.heap.size (fun k_ => nB k_ v694 ∧ nB k_ v719) v711 t710) ∧ Aside0 (Kd.R k39 39 w' w.heap.size (fun k_ => nB k_ v694 ∧ nB k_ v711) v719 t718) ∧ Aside0 (Below w.heap.size w w'))
             case atStart => exact ⟨(0), rfy, H', ⟨Nat.le_refl _⟩, ⟨mR HO_6.out⟩, ⟨mR HO_8.out⟩, ⟨mR HO_9.out⟩, ⟨mB HB.out⟩⟩
             case round =>
              clear H'
              (try clear c1); (try clear c5); (try clear c23); (try clear c29); (try clear c29b0); (try clear c29b1); (try clear c31); (try clear c31b0); (try clear c31b1); (try clear c32); (try clear c32b0); (try clear c32b1); (try clear c34b0); (try clear c35b0); (try clear q38); (try clear c40); (try clear q40); (try clear c53); (try clear q040); (try clear q38); (try clear q40)
              obtain ⟨x10_4, rfl, HA, HK4, HO_6, HO_8, HO_9, HB⟩ := hrel
              cases gk with
              | zero => exact absurd HA.out (by simp [laws_FnCodeCat.l0])
              | succ k4 =>
               have H := HA.out
               clear HA
               simp only [laws_FnCodeCat.l0] at H
               by_cases c54 : x10_4 < (t718.length : Int)
               ·rw [if_pos c54] at H
                have c54b0 : decide (x10_4 < (t718.length : Int)) = true := decide_eq_true c54
                clear c54
                by_cases c55 : 0 ≤ x10_4
                ·rw [if_pos c55] at H
                 have c55b0 : decide (0 ≤ x10_4) = true := decide_eq_true c55
                 clear c55
                 have HC56 := z0 H
                 clear H
                 obtain ⟨Ao57, co57, eo57⟩ := Kd.R_slice HO_9.out
                 subst eo57
                 have p727 : 0 ≤ (x10_4 : Int) := of_decide_eq_true q4_2
                 have q727 : x10_4 < (t718.length : Int) := of_decide_eq_true q4_2
                 obtain ⟨ad727, e727, hx727_0, hx727_1, hx727_2, hx727_3⟩ := at_T39 (Kd.R_reads' HO_9.out).2.2 x10_4 p727 q727
                 cases e727
                 replace p727 := eq_true p727
                 replace q727 := eq_true q727
                 go_upto_region 16 with (first | ((with_reducible refine gate_dst (N := 11) rfl ?_); (try (refine gate_guard (by rfl) ?_; dsimp only)); refine box_event ?hg (N := 11) ?hd (cs := #[.int .i64 0, .int .i64 0, .int .i64 0, .int .i64 0]) (t := 39) ?hr ?_; (case hd => rfl); (case hg => rfl); (case hr => first | (go_simp; done) | (go_simp; rfl)); intro gb728 hg w58 hbox hb; have n_ := az (Kd.R_below (Kd.R_elderB (mR HO_6.out) gb728 (Nat.le_of_eq hg.symm)) hb) <| az (Kd.R_below (Kd.R_elderB (mR HO_8.out) gb728 (Nat.le_of_eq hg.symm)) hb) <| az (Kd.R_below (Kd.R_elderB (mR HO_9.out) gb728 (Nat.le_of_eq hg.symm)) hb) <| az (below_step (mB HB.out) hb) <| az (hbox) <| az ((by rw [hg]; exact (below_size (mB HB.out)) : w.heap.size ≤ gb728)) <| z0 ((by rw [hg]; exact (below_size (mB HB.out)) : w.heap.size ≤ gb728)); clear HO_6 HO_8 HO_9 HB; obtain ⟨HO_6, HO_8, HO_9, HB, BK728, GW728, GE728⟩ := n_; clear hb hbox hg; obtain ⟨hcz59_0, hcz59_1, hcz59_2, hcz59_3, hfz59_0, hfz59_1, hfz59_2, hfz59_3⟩ := cel4 BK728.out))
                 (try simp only [Act.put, List.setIfInBounds_toArray, List.set_cons_zero, List.set_cons_succ])
                 go_cut [91] (fun v91 wc => ∃ (kq : Nat) (x91_55 : Bool), v91 = .bool x91_55 ∧ Aside0 (laws_FnCodeCat.j4 kq t693 t710 t718 x10_4 x91_55 ((rd_T39 t718 x10_4).f0) ((rd_T39 t718 x10_4).f1) ((rd_T39 t718 x10_4).f2.f0) ((rd_T39 t718 x10_4).f2.f1) = some r) ∧ Aside0 (kq ≤ k4) ∧ Aside0 (Kd.R k39 39 wc w.heap.size (fun k_ => nB k_ v711 ∧ some k_ ≠ ((.slice (some ad727) t718.length co57) : Value).ownBlock ∧ k_ ≠ gb728) v694 t693) ∧ Aside0 (Kd.R k39 39 wc w.heap.size (fun k_ => nB k_ v694 ∧ some k_ ≠ ((.slice (some ad727) t718.length co57) : Value).ownBlock ∧ k_ ≠ gb728) v711 t710) ∧ Aside0 (Kd.R k39 39 wc w.heap.size (fun k_ => nB k_ v694 ∧ nB k_ v711 ∧ k_ ≠ gb728) (.slice (some ad727) t718.length co57) t718) ∧ Aside0 (wc.heap[gb728]? = some (.cells #[.int .i64 ((rd_T39 t718 x10_4).f0), .int .i64 ((rd_T39 t718 x10_4).f1), .int .i64 ((rd_T39 t718 x10_4).f2.f0), .int .i64 ((rd_T39 t718 x10_4).f2.f1)] 39 (0, 0))) ∧ Aside0 (Below w.heap.size w wc))
                 case first =>
                  have H := HC56.out
                  clear HC56
                  by_cases c60 : ((rd_T39 t718 x10_4).f0) = 6
                  ·rw [if_pos c60] at H
                   have c60b0 : (((rd_T39 t718 x10_4).f0) == 6) = true := beq_iff_eq.mpr c60
                   have c60b1 : (((rd_T39 t718 x10_4).f0) != 6) = false := bne_eq_false_iff_eq.mpr c60
                   clear c60
                   (first | rw [c60b0] | (simp only [i64_w, i32_w]; rw [c60b0]) | skip)
                   have H' := z0 H
                   clear H
                   obtain ⟨hcz61_0, hcz61_1, hcz61_2, hcz61_3, hfz61_0, hfz61_1, hfz61_2, hfz61_3⟩ := cel4 BK728.out
                   go_wp2
                   repeat (go_quiet (fail); try go_wp2)
                   go_meet
                   case rel => exact ⟨_, (true), rfy, H', ⟨by have := HJ2.out; have := HJ7.out; have := HJ36.out; have := HK4.out; first | omega | exact Nat.le_refl _⟩, ⟨by (with_reducible repeat (first | apply Kd.R_alloc | apply Kd.R_drewN | apply Kd.R_drew)); exact Kd.R_mono (Kd.R_far (p := ⟨gb728, 3, none⟩) (Kd.R_far (p := ⟨gb728, 2, none⟩) (Kd.R_far (p := ⟨gb728, 1, none⟩) (Kd.R_far (p := ⟨gb728, 0, none⟩) (Kd.R_mono HO_6.out (fun k_ hk => (⟨hk, hk.2⟩ : _ ∧ k_ ≠ gb728))) (fun _ hk => hk.2) (.int .i64 ((rd_T39 t718 x10_4).f0))) (fun _ hk => hk.2) (.int .i64 ((rd_T39 t718 x10_4).f1))) (fun _ hk => hk.2) (.int .i64 ((rd_T39 t718 x10_4).f2.f0))) (fun _ hk => hk.2) (.int .i64 ((rd_T39 t718 x10_4).f2.f1))) (fun _ hk => ⟨hk.1.1.1, ⟨hk.1.1.2, hk.1.2⟩⟩)⟩, ⟨by (with_reducible repeat (first | apply Kd.R_alloc | apply Kd.R_drewN | apply Kd.R_drew)); exact Kd.R_mono (Kd.R_far (p := ⟨gb728, 3, none⟩) (Kd.R_far (p := ⟨gb728, 2, none⟩) (Kd.R_far (p := ⟨gb728, 1, none⟩) (Kd.R_far (p := ⟨gb728, 0, none⟩) (Kd.R_mono HO_8.out (fun k_ hk => (⟨hk, hk.2⟩ : _ ∧ k_ ≠ gb728))) (fun _ hk => hk.2) (.int .i64 ((rd_T39 t718 x10_4).f0))) (fun _ hk => hk.2) (.int .i64 ((rd_T39 t718 x10_4).f1))) (fun _ hk => hk.2) (.int .i64 ((rd_T39 t718 x10_4).f2.f0))) (fun _ hk => hk.2) (.int .i64 ((rd_T39 t718 x10_4).f2.f1))) (fun _ hk => ⟨hk.1.1.1, ⟨hk.1.1.2, hk.1.2⟩⟩)⟩, ⟨by (with_reducible repeat (first | apply Kd.R_alloc | apply Kd.R_drewN | apply Kd.R_drew)); exact Kd.R_mono (Kd.R_far (p := ⟨gb728, 3, none⟩) (Kd.R_far (p := ⟨gb728, 2, none⟩) (Kd.R_far (p := ⟨gb728, 1, none⟩) (Kd.R_far (p := ⟨gb728, 0, none⟩) (Kd.R_mono HO_9.out (fun k_ hk => (⟨hk, hk.2⟩ : _ ∧ k_ ≠ gb728))) (fun _ hk => hk.2) (.int .i64 ((rd_T39 t718 x10_4).f0))) (fun _ hk => hk.2) (.int .i64 ((rd_T39 t718 x10_4).f1))) (fun _ hk => hk.2) (.int .i64 ((rd_T39 t718 x10_4).f2.f0))) (fun _ hk => hk.2) (.int .i64 ((rd_T39 t718 x10_4).f2.f1))) (fun _ hk => ⟨hk.1.1.1, ⟨hk.1.1.2, hk.1.2⟩⟩)⟩, ⟨by (with_reducible repeat (first | refine blk_drewN ?_ _ | refine blk_drew ?_ | refine blk_alloc ?_ _)); refine blk_put (cs := #[.int .i64 ((rd_T39 t718 x10_4).f0), .int .i64 ((rd_T39 t718 x10_4).f1), .int .i64 ((rd_T39 t718 x10_4).f2.f0), .int .i64 0]) ?_ 3 _ rfl; (with_reducible repeat (first | refine blk_drewN ?_ _ | refine blk_drew ?_ | refine blk_alloc ?_ _)); refine blk_put (cs := #[.int .i64 ((rd_T39 t718 x10_4).f0), .int .i64 ((rd_T39 t718 x10_4).f1), .int .i64 0, .int .i64 0]) ?_ 2 _ rfl; (with_reducible repeat (first | refine blk_drewN ?_ _ | refine blk_drew ?_ | refine blk_alloc ?_ _)); refine blk_put (cs := #[.int .i64 ((rd_T39 t718 x10_4).f0), .int .i64 0, .int .i64 0, .int .i64 0]) ?_ 1 _ rfl; (with_reducible repeat (first | refine blk_drewN ?_ _ | refine blk_drew ?_ | refine blk_alloc ?_ _)); refine blk_put (cs := #[.int .i64 0, .int .i64 0, .int .i64 0, .int .i64 0]) ?_ 0 _ rfl; (with_reducible repeat (first | refine blk_drewN ?_ _ | refine blk_drew ?_ | refine blk_alloc ?_ _)); exact BK728.out⟩, ⟨mB HB.out⟩⟩
                  ·rw [if_neg c60] at H
                   have c60b0 : (((rd_T39 t718 x10_4).f0) == 6) = false := beq_eq_false_iff_ne.mpr c60
                   have c60b1 : (((rd_T39 t718 x10_4).f0) != 6) = true := bne_iff_ne.mpr c60
                   (first | rw [c60b0] | (simp only [i64_w, i32_w]; rw [c60b0]) | skip)
                   by_cases c62 : ((rd_T39 t718 x10_4).f0) = 7
                   ·rw [if_pos c62] at H
                    have c62b0 : (((rd_T39 t718 x10_4).f0) == 7) = true := beq_iff_eq.mpr c62
                    have c62b1 : (((rd_T39 t718 x10_4).f0) != 7) = false := bne_eq_false_iff_eq.mpr c62
                    clear c62
                    have H' := z0 H
                    clear H
                    obtain ⟨hcz63_0, hcz63_1, hcz63_2, hcz63_3, hfz63_0, hfz63_1, hfz63_2, hfz63_3⟩ := cel4 BK728.out
                    go_wp2
                    repeat (go_quiet (fail); try go_wp2)
                    go_meet
                    case rel => exact ⟨_, (true), rfy, H', ⟨by have := HJ2.out; have := HJ7.out; have := HJ36.out; have := HK4.out; first | omega | exact Nat.le_refl _⟩, ⟨by (with_reducible repeat (first | apply Kd.R_alloc | apply Kd.R_drewN | apply Kd.R_drew)); exact Kd.R_mono (Kd.R_far (p := ⟨gb728, 3, none⟩) (Kd.R_far (p := ⟨gb728, 2, none⟩) (Kd.R_far (p := ⟨gb728, 1, none⟩) (Kd.R_far (p := ⟨gb728, 0, none⟩) (Kd.R_mono HO_6.out (fun k_ hk => (⟨hk, hk.2⟩ : _ ∧ k_ ≠ gb728))) (fun _ hk => hk.2) (.int .i64 ((rd_T39 t718 x10_4).f0))) (fun _ hk => hk.2) (.int .i64 ((rd_T39 t718 x10_4).f1))) (fun _ hk => hk.2) (.int .i64 ((rd_T39 t718 x10_4).f2.f0))) (fun _ hk => hk.2) (.int .i64 ((rd_T39 t718 x10_4).f2.f1))) (fun _ hk => ⟨hk.1.1.1, ⟨hk.1.1.2, hk.1.2⟩⟩)⟩, ⟨by (with_reducible repeat (first | apply Kd.R_alloc | apply Kd.R_drewN | apply Kd.R_drew)); exact Kd.R_mono (Kd.R_far (p := ⟨gb728, 3, none⟩) (Kd.R_far (p := ⟨gb728, 2, none⟩) (Kd.R_far (p := ⟨gb728, 1, none⟩) (Kd.R_far (p := ⟨gb728, 0, none⟩) (Kd.R_mono HO_8.out (fun k_ hk => (⟨hk, hk.2⟩ : _ ∧ k_ ≠ gb728))) (fun _ hk => hk.2) (.int .i64 ((rd_T39 t718 x10_4).f0))) (fun _ hk => hk.2) (.int .i64 ((rd_T39 t718 x10_4).f1))) (fun _ hk => hk.2) (.int .i64 ((rd_T39 t718 x10_4).f2.f0))) (fun _ hk => hk.2) (.int .i64 ((rd_T39 t718 x10_4).f2.f1))) (fun _ hk => ⟨hk.1.1.1, ⟨hk.1.1.2, hk.1.2⟩⟩)⟩, ⟨by (with_reducible repeat (first | apply Kd.R_alloc | apply Kd.R_drewN | apply Kd.R_drew)); exact Kd.R_mono (Kd.R_far (p := ⟨gb728, 3, none⟩) (Kd.R_far (p := ⟨gb728, 2, none⟩) (Kd.R_far (p := ⟨gb728, 1, none⟩) (Kd.R_far (p := ⟨gb728, 0, none⟩) (Kd.R_mono HO_9.out (fun k_ hk => (⟨hk, hk.2⟩ : _ ∧ k_ ≠ gb728))) (fun _ hk => hk.2) (.int .i64 ((rd_T39 t718 x10_4).f0))) (fun _ hk => hk.2) (.int .i64 ((rd_T39 t718 x10_4).f1))) (fun _ hk => hk.2) (.int .i64 ((rd_T39 t718 x10_4).f2.f0))) (fun _ hk => hk.2) (.int .i64 ((rd_T39 t718 x10_4).f2.f1))) (fun _ hk => ⟨hk.1.1.1, ⟨hk.1.1.2, hk.1.2⟩⟩)⟩, ⟨by (with_reducible repeat (first | refine blk_drewN ?_ _ | refine blk_drew ?_ | refine blk_alloc ?_ _)); refine blk_put (cs := #[.int .i64 ((rd_T39 t718 x10_4).f0), .int .i64 ((rd_T39 t718 x10_4).f1), .int .i64 ((rd_T39 t718 x10_4).f2.f0), .int .i64 0]) ?_ 3 _ rfl; (with_reducible repeat (first | refine blk_drewN ?_ _ | refine blk_drew ?_ | refine blk_alloc ?_ _)); refine blk_put (cs := #[.int .i64 ((rd_T39 t718 x10_4).f0), .int .i64 ((rd_T39 t718 x10_4).f1), .int .i64 0, .int .i64 0]) ?_ 2 _ rfl; (with_reducible repeat (first | refine blk_drewN ?_ _ | refine blk_drew ?_ | refine blk_alloc ?_ _)); refine blk_put (cs := #[.int .i64 ((rd_T39 t718 x10_4).f0), .int .i64 0, .int .i64 0, .int .i64 0]) ?_ 1 _ rfl; (with_reducible repeat (first | refine blk_drewN ?_ _ | refine blk_drew ?_ | refine blk_alloc ?_ _)); refine blk_put (cs := #[.int .i64 0, .int .i64 0, .int .i64 0, .int .i64 0]) ?_ 0 _ rfl; (with_reducible repeat (first | refine blk_drewN ?_ _ | refine blk_drew ?_ | refine blk_alloc ?_ _)); exact BK728.out⟩, ⟨mB HB.out⟩⟩
                   ·rw [if_neg c62] at H
                    have c62b0 : (((rd_T39 t718 x10_4).f0) == 7) = false := beq_eq_false_iff_ne.mpr c62
                    have c62b1 : (((rd_T39 t718 x10_4).f0) != 7) = true := bne_iff_ne.mpr c62
                    have H' := z0 H
                    clear H
                    obtain ⟨hcz64_0, hcz64_1, hcz64_2, hcz64_3, hfz64_0, hfz64_1, hfz64_2, hfz64_3⟩ := cel4 BK728.out
                    go_wp2
                    repeat (go_quiet (fail); try go_wp2)
                    go_meet
                    case rel => exact ⟨_, ((((rd_T39 t718 x10_4).f0) == 8)), rfy, H', ⟨by have := HJ2.out; have := HJ7.out; have := HJ36.out; have := HK4.out; first | omega | exact Nat.le_refl _⟩, ⟨by (with_reducible repeat (first | apply Kd.R_alloc | apply Kd.R_drewN | apply Kd.R_drew)); exact Kd.R_mono (Kd.R_far (p := ⟨gb728, 3, none⟩) (Kd.R_far (p := ⟨gb728, 2, none⟩) (Kd.R_far (p := ⟨gb728, 1, none⟩) (Kd.R_far (p := ⟨gb728, 0, none⟩) (Kd.R_mono HO_6.out (fun k_ hk => (⟨hk, hk.2⟩ : _ ∧ k_ ≠ gb728))) (fun _ hk => hk.2) (.int .i64 ((rd_T39 t718 x10_4).f0))) (fun _ hk => hk.2) (.int .i64 ((rd_T39 t718 x10_4).f1))) (fun _ hk => hk.2) (.int .i64 ((rd_T39 t718 x10_4).f2.f0))) (fun _ hk => hk.2) (.int .i64 ((rd_T39 t718 x10_4).f2.f1))) (fun _ hk => ⟨hk.1.1.1, ⟨hk.1.1.2, hk.1.2⟩⟩)⟩, ⟨by (with_reducible repeat (first | apply Kd.R_alloc | apply Kd.R_drewN | apply Kd.R_drew)); exact Kd.R_mono (Kd.R_far (p := ⟨gb728, 3, none⟩) (Kd.R_far (p := ⟨gb728, 2, none⟩) (Kd.R_far (p := ⟨gb728, 1, none⟩) (Kd.R_far (p := ⟨gb728, 0, none⟩) (Kd.R_mono HO_8.out (fun k_ hk => (⟨hk, hk.2⟩ : _ ∧ k_ ≠ gb728))) (fun _ hk => hk.2) (.int .i64 ((rd_T39 t718 x10_4).f0))) (fun _ hk => hk.2) (.int .i64 ((rd_T39 t718 x10_4).f1))) (fun _ hk => hk.2) (.int .i64 ((rd_T39 t718 x10_4).f2.f0))) (fun _ hk => hk.2) (.int .i64 ((rd_T39 t718 x10_4).f2.f1))) (fun _ hk => ⟨hk.1.1.1, ⟨hk.1.1.2, hk.1.2⟩⟩)⟩, ⟨by (with_reducible repeat (first | apply Kd.R_alloc | apply Kd.R_drewN | apply Kd.R_drew)); exact Kd.R_mono (Kd.R_far (p := ⟨gb728, 3, none⟩) (Kd.R_far (p := ⟨gb728, 2, none⟩) (Kd.R_far (p := ⟨gb728, 1, none⟩) (Kd.R_far (p := ⟨gb728, 0, none⟩) (Kd.R_mono HO_9.out (fun k_ hk => (⟨hk, hk.2⟩ : _ ∧ k_ ≠ gb728))) (fun _ hk => hk.2) (.int .i64 ((rd_T39 t718 x10_4).f0))) (fun _ hk => hk.2) (.int .i64 ((rd_T39 t718 x10_4).f1))) (fun _ hk => hk.2) (.int .i64 ((rd_T39 t718 x10_4).f2.f0))) (fun _ hk => hk.2) (.int .i64 ((rd_T39 t718 x10_4).f2.f1))) (fun _ hk => ⟨hk.1.1.1, ⟨hk.1.1.2, hk.1.2⟩⟩)⟩, ⟨by (with_reducible repeat (first | refine blk_drewN ?_ _ | refine blk_drew ?_ | refine blk_alloc ?_ _)); refine blk_put (cs := #[.int .i64 ((rd_T39 t718 x10_4).f0), .int .i64 ((rd_T39 t718 x10_4).f1), .int .i64 ((rd_T39 t718 x10_4).f2.f0), .int .i64 0]) ?_ 3 _ rfl; (with_reducible repeat (first | refine blk_drewN ?_ _ | refine blk_drew ?_ | refine blk_alloc ?_ _)); refine blk_put (cs := #[.int .i64 ((rd_T39 t718 x10_4).f0), .int .i64 ((rd_T39 t718 x10_4).f1), .int .i64 0, .int .i64 0]) ?_ 2 _ rfl; (with_reducible repeat (first | refine blk_drewN ?_ _ | refine blk_drew ?_ | refine blk_alloc ?_ _)); refine blk_put (cs := #[.int .i64 ((rd_T39 t718 x10_4).f0), .int .i64 0, .int .i64 0, .int .i64 0]) ?_ 1 _ rfl; (with_reducible repeat (first | refine blk_drewN ?_ _ | refine blk_drew ?_ | refine blk_alloc ?_ _)); refine blk_put (cs := #[.int .i64 0, .int .i64 0, .int .i64 0, .int .i64 0]) ?_ 0 _ rfl; (with_reducible repeat (first | refine blk_drewN ?_ _ | refine blk_drew ?_ | refine blk_alloc ?_ _)); exact BK728.out⟩, ⟨mB HB.out⟩⟩
                 case rest =>
                  clear HC56
                  (try clear c1); (try clear c5); (try clear c23); (try clear c29); (try clear c29b0); (try clear c29b1); (try clear c31); (try clear c31b0); (try clear c31b1); (try clear c32); (try clear c32b0); (try clear c32b1); (try clear c34b0); (try clear c35b0); (try clear q38); (try clear c40); (try clear q40); (try clear c53); (try clear c54); (try clear c54b0); (try clear c55); (try clear c55b0); (try clear hcz59_0); (try clear hcz59_1); (try clear hcz59_2); (try clear hcz59_3); (try clear hfz59_0); (try clear hfz59_1); (try clear hfz59_2); (try clear hfz59_3); (try clear hx727_0); (try clear hx727_1); (try clear hx727_2); (try clear hx727_3); (try clear p727); (try clear q040); (try clear q38); (try clear q40); (try clear q727)
                  obtain ⟨kq, x91_55, rfl, HA, HJ55, HO_6, HO_8, HO_9, BK728, HB⟩ := hcut
                  cases kq with
                  | zero => exact absurd HA.out (by simp [laws_FnCodeCat.j4])
                  | succ kj55 =>
                   have H := HA.out
                   clear HA
                   simp only [laws_FnCodeCat.j4] at H
                   by_cases c65 : x91_55 = true
                   ·subst c65
                    have H1 : (if 0 ≤ (wrap64 ((t710.length : Int) + x10_4)) then (if (wrap64 ((t710.length : Int) + x10_4)) < (t693.length : Int) then (if (!(((rd_T39 t693 (wrap64 ((t710.length : Int) + x10_4))).f0) == ((rd_T39 t718 x10_4).f0)) || (!(((rd_T39 t693 (wrap64 ((t710.length : Int) + x10_4))).f1) == (wrap64 (((rd_T39 t718 x10_4).f1) + (t710.length : Int)))) || ((!(((rd_T39 t693 (wrap64 ((t710.length : Int) + x10_4))).f2.f0) == ((rd_T39 t718 x10_4).f2.f0)) || (!(((rd_T39 t693 (wrap64 ((t710.length : Int) + x10_4))).f2.f1) == ((rd_T39 t718 x10_4).f2.f1))))))) = true then (some false) else (laws_FnCodeCat.l0 kj55 t693 t710 t718 (wrap64 (x10_4 + 1)))) else (none)) else (none)) = some r := by rw [if_pos rfl] at H; exact H
                    clear H
                    have H := H1
                    clear H1
                    obtain ⟨ji66, hji66⟩ : ∃ j_ : Int, (wrap64 ((t710.length : Int) + x10_4)) = j_ := ⟨_, rfl⟩
                    replace H : (if 0 ≤ (ji66) then (if (ji66) < (t693.length : Int) then (if (!(((rd_T39 t693 (ji66)).f0) == ((rd_T39 t718 x10_4).f0)) || (!(((rd_T39 t693 (ji66)).f1) == (wrap64 (((rd_T39 t718 x10_4).f1) + (t710.length : Int)))) || ((!(((rd_T39 t693 (ji66)).f2.f0) == ((rd_T39 t718 x10_4).f2.f0)) || (!(((rd_T39 t693 (ji66)).f2.f1) == ((rd_T39 t718 x10_4).f2.f1))))))) = true then (some false) else (laws_FnCodeCat.l0 kj55 t693 t710 t718 (wrap64 (x10_4 + 1)))) else (none)) else (none)) = some r := by first | (rw [hji66] at H; exact H) | (simp only [hji66] at H ⊢; exact H)
                    have hji66w : (IntKind.i64.wrap ((t710.length : Int) + x10_4)) = ji66 := (i64_w _).trans hji66
                    by_cases c67 : 0 ≤ (ji66)
                    ·rw [if_pos c67] at H
                     have c67b0 : decide (0 ≤ (ji66)) = true := decide_eq_true c67
                     clear c67
                     by_cases c68 : (ji66) < (t693.length : Int)
                     ·rw [if_pos c68] at H
                      have c68b0 : decide ((ji66) < (t693.length : Int)) = true := decide_eq_true c68
                      clear c68
                      by_cases c69 : (!(((rd_T39 t693 (ji66)).f0) == ((rd_T39 t718 x10_4).f0)) || (!(((rd_T39 t693 (ji66)).f1) == (wrap64 (((rd_T39 t718 x10_4).f1) + (t710.length : Int)))) || ((!(((rd_T39 t693 (ji66)).f2.f0) == ((rd_T39 t718 x10_4).f2.f0)) || (!(((rd_T39 t693 (ji66)).f2.f1) == ((rd_T39 t718 x10_4).f2.f1))))))) = true
                      ·rw [if_pos c69] at H
                       have c69b0 : (!(((rd_T39 t693 (ji66)).f0) == ((rd_T39 t718 x10_4).f0)) || (!(((rd_T39 t693 (ji66)).f1) == (wrap64 (((rd_T39 t718 x10_4).f1) + (t710.length : Int)))) || ((!(((rd_T39 t693 (ji66)).f2.f0) == ((rd_T39 t718 x10_4).f2.f0)) || (!(((rd_T39 t693 (ji66)).f2.f1) == ((rd_T39 t718 x10_4).f2.f1))))))) = true := c69
                       clear c69
                       obtain rfl := Option.some.inj H
                       obtain ⟨hcz70_0, hcz70_1, hcz70_2, hcz70_3, hfz70_0, hfz70_1, hfz70_2, hfz70_3⟩ := cel4 BK728.out
                       obtain ⟨Ao71, co71, eo71⟩ := Kd.R_slice HO_8.out
                       subst eo71
                       obtain ⟨Ao72, co72, eo72⟩ := Kd.R_slice HO_6.out
                       subst eo72
                       have p729 : 0 ≤ ((ji66) : Int) := of_decide_eq_true q4_2
                       have q729 : (ji66) < (t693.length : Int) := of_decide_eq_true q4_2
                       obtain ⟨ad729, e729, hx729_0, hx729_1, hx729_2, hx729_3⟩ := at_T39 (Kd.R_reads' HO_6.out).2.2 (ji66) p729 q729
                       cases e729
                       have hn729_0 : ad729.block ≠ gb728 := Kd.own_blk (Kd.R_away HO_6.out (fun _ hk => hk.2.2))
                       replace hx729_0 := (cell_far (p := ⟨gb728, 1, none⟩) q4_1 (.int .i64 (wrap64 (((rd_T39 t718 x10_4).f1) + (t710.length : Int))))).trans hx729_0
                       replace hx729_1 := (cell_far (p := ⟨gb728, 1, none⟩) q4_1 (.int .i64 (wrap64 (((rd_T39 t718 x10_4).f1) + (t710.length : Int))))).trans hx729_1
                       replace hx729_2 := (cell_far (p := ⟨gb728, 1, none⟩) q4_1 (.int .i64 (wrap64 (((rd_T39 t718 x10_4).f1) + (t710.length : Int))))).trans hx729_2
                       replace hx729_3 := (cell_far (p := ⟨gb728, 1, none⟩) q4_1 (.int .i64 (wrap64 (((rd_T39 t718 x10_4).f1) + (t710.length : Int))))).trans hx729_3
                       (try have hy729_0 := fun (n_ : Nat) => (show (((wc.drewN n_).setCell ⟨gb728, 1, none⟩ (.int .i64 (wrap64 (((rd_T39 t718 x10_4).f1) + (t710.length : Int)))))).cell? _ = some _ from hx729_0))
                       (try have hy729_1 := fun (n_ : Nat) => (show (((wc.drewN n_).setCell ⟨gb728, 1, none⟩ (.int .i64 (wrap64 (((rd_T39 t718 x10_4).f1) + (t710.length : Int)))))).cell? _ = some _ from hx729_1))
                       (try have hy729_2 := fun (n_ : Nat) => (show (((wc.drewN n_).setCell ⟨gb728, 1, none⟩ (.int .i64 (wrap64 (((rd_T39 t718 x10_4).f1) + (t710.length : Int)))))).cell? _ = some _ from hx729_2))
                       (try have hy729_3 := fun (n_ : Nat) => (show (((wc.drewN n_).setCell ⟨gb728, 1, none⟩ (.int .i64 (wrap64 (((rd_T39 t718 x10_4).f1) + (t710.length : Int)))))).cell? _ = some _ from hx729_3))
                       clear hn729_0
                       replace p729 := eq_true p729
                       replace q729 := eq_true q729
                       go_wp2
                       repeat (go_quiet (fail); try go_wp2)
                       go_ret
                       exact ⟨by first | rfl | (simp [errW_none, errW_some] <;> rfl) | (simp only [← hji30, ← hji66]; first | rfl | (simp [errW_none, errW_some] <;> rfl)) | (simp [*, errW_none, errW_some] <;> rfl), mB HB.out⟩
                      ·rw [if_neg c69] at H
                       have c69b0 : (!(((rd_T39 t693 (ji66)).f0) == ((rd_T39 t718 x10_4).f0)) || (!(((rd_T39 t693 (ji66)).f1) == (wrap64 (((rd_T39 t718 x10_4).f1) + (t710.length : Int)))) || ((!(((rd_T39 t693 (ji66)).f2.f0) == ((rd_T39 t718 x10_4).f2.f0)) || (!(((rd_T39 t693 (ji66)).f2.f1) == ((rd_T39 t718 x10_4).f2.f1))))))) = false := by simpa using c69
                       clear c69
                       have H' := z0 H
                       clear H
                       obtain ⟨hcz73_0, hcz73_1, hcz73_2, hcz73_3, hfz73_0, hfz73_1, hfz73_2, hfz73_3⟩ := cel4 BK728.out
                       obtain ⟨Ao74, co74, eo74⟩ := Kd.R_slice HO_8.out
                       subst eo74
                       obtain ⟨Ao75, co75, eo75⟩ := Kd.R_slice HO_6.out
                       subst eo75
                       have p729 : 0 ≤ ((ji66) : Int) := of_decide_eq_true q4_2
                       have q729 : (ji66) < (t693.length : Int) := of_decide_eq_true q4_2
                       obtain ⟨ad729, e729, hx729_0, hx729_1, hx729_2, hx729_3⟩ := at_T39 (Kd.R_reads' HO_6.out).2.2 (ji66) p729 q729
                       cases e729
                       have hn729_0 : ad729.block ≠ gb728 := Kd.own_blk (Kd.R_away HO_6.out (fun _ hk => hk.2.2))
                       replace hx729_0 := (cell_far (p := ⟨gb728, 1, none⟩) q4_1 (.int .i64 (wrap64 (((rd_T39 t718 x10_4).f1) + (t710.length : Int))))).trans hx729_0
                       replace hx729_1 := (cell_far (p := ⟨gb728, 1, none⟩) q4_1 (.int .i64 (wrap64 (((rd_T39 t718 x10_4).f1) + (t710.length : Int))))).trans hx729_1
                       replace hx729_2 := (cell_far (p := ⟨gb728, 1, none⟩) q4_1 (.int .i64 (wrap64 (((rd_T39 t718 x10_4).f1) + (t710.length : Int))))).trans hx729_2
                       replace hx729_3 := (cell_far (p := ⟨gb728, 1, none⟩) q4_1 (.int .i64 (wrap64 (((rd_T39 t718 x10_4).f1) + (t710.length : Int))))).trans hx729_3
                       (try have hy729_0 := fun (n_ : Nat) => (show (((wc.drewN n_).setCell ⟨gb728, 1, none⟩ (.int .i64 (wrap64 (((rd_T39 t718 x10_4).f1) + (t710.length : Int)))))).cell? _ = some _ from hx729_0))
                       (try have hy729_1 := fun (n_ : Nat) => (show (((wc.drewN n_).setCell ⟨gb728, 1, none⟩ (.int .i64 (wrap64 (((rd_T39 t718 x10_4).f1) + (t710.length : Int)))))).cell? _ = some _ from hx729_1))
                       (try have hy729_2 := fun (n_ : Nat) => (show (((wc.drewN n_).setCell ⟨gb728, 1, none⟩ (.int .i64 (wrap64 (((rd_T39 t718 x10_4).f1) + (t710.length : Int)))))).cell? _ = some _ from hx729_2))
                       (try have hy729_3 := fun (n_ : Nat) => (show (((wc.drewN n_).setCell ⟨gb728, 1, none⟩ (.int .i64 (wrap64 (((rd_T39 t718 x10_4).f1) + (t710.length : Int)))))).cell? _ = some _ from hx729_3))
                       clear hn729_0
                       replace p729 := eq_true p729
                       replace q729 := eq_true q729
                       go_wp2
                       repeat (go_quiet (fail); try go_wp2)
                       go_roundg kj55
                       case measure => have := HJ2.out; have := HJ7.out; have := HJ36.out; have := HK4.out; have := HJ55.out; omega
                       case rel => exact ⟨(wrap64 (x10_4 + 1)), rfy, H', ⟨by have := HJ2.out; have := HJ7.out; have := HJ36.out; have := HK4.out; have := HJ55.out; omega⟩, ⟨by (with_reducible repeat (first | apply Kd.R_alloc | apply Kd.R_drewN | apply Kd.R_drew)); exact Kd.R_mono (Kd.R_far (p := ⟨gb728, 1, none⟩) (Kd.R_mono HO_6.out (fun k_ hk => (⟨hk, hk.2.2⟩ : _ ∧ k_ ≠ gb728))) (fun _ hk => hk.2) (.int .i64 (wrap64 (((rd_T39 t718 x10_4).f1) + (t710.length : Int))))) (fun _ hk => ⟨hk.1.1, hk.1.2.1⟩)⟩, ⟨by (with_reducible repeat (first | apply Kd.R_alloc | apply Kd.R_drewN | apply Kd.R_drew)); exact Kd.R_mono (Kd.R_far (p := ⟨gb728, 1, none⟩) (Kd.R_mono HO_8.out (fun k_ hk => (⟨hk, hk.2.2⟩ : _ ∧ k_ ≠ gb728))) (fun _ hk => hk.2) (.int .i64 (wrap64 (((rd_T39 t718 x10_4).f1) + (t710.length : Int))))) (fun _ hk => ⟨hk.1.1, hk.1.2.1⟩)⟩, ⟨by (with_reducible repeat (first | apply Kd.R_alloc | apply Kd.R_drewN | apply Kd.R_drew)); exact Kd.R_mono (Kd.R_far (p := ⟨gb728, 1, none⟩) (Kd.R_mono HO_9.out (fun k_ hk => (⟨hk, hk.2.2⟩ : _ ∧ k_ ≠ gb728))) (fun _ hk => hk.2) (.int .i64 (wrap64 (((rd_T39 t718 x10_4).f1) + (t710.length : Int))))) (fun _ hk => ⟨hk.1.1, hk.1.2.1⟩)⟩, ⟨mB HB.out⟩⟩
                     ·rw [if_neg c68] at H
                      exact absurd H (by simp)
                    ·rw [if_neg c67] at H
                     exact absurd H (by simp)
                   ·replace c65 := Bool.eq_false_iff.mpr c65
                    subst c65
                    have H1 : (if 0 ≤ (wrap64 ((t710.length : Int) + x10_4)) then (if (wrap64 ((t710.length : Int) + x10_4)) < (t693.length : Int) then (if (!(((rd_T39 t693 (wrap64 ((t710.length : Int) + x10_4))).f0) == ((rd_T39 t718 x10_4).f0)) || (!(((rd_T39 t693 (wrap64 ((t710.length : Int) + x10_4))).f1) == ((rd_T39 t718 x10_4).f1)) || ((!(((rd_T39 t693 (wrap64 ((t710.length : Int) + x10_4))).f2.f0) == ((rd_T39 t718 x10_4).f2.f0)) || (!(((rd_T39 t693 (wrap64 ((t710.length : Int) + x10_4))).f2.f1) == ((rd_T39 t718 x10_4).f2.f1))))))) = true then (some false) else (laws_FnCodeCat.l0 kj55 t693 t710 t718 (wrap64 (x10_4 + 1)))) else (none)) else (none)) = some r := by rw [if_neg (show ¬ (false = true) by decide)] at H; exact H
                    clear H
                    have H := H1
                    clear H1
                    obtain ⟨ji76, hji76⟩ : ∃ j_ : Int, (wrap64 ((t710.length : Int) + x10_4)) = j_ := ⟨_, rfl⟩
                    replace H : (if 0 ≤ (ji76) then (if (ji76) < (t693.length : Int) then (if (!(((rd_T39 t693 (ji76)).f0) == ((rd_T39 t718 x10_4).f0)) || (!(((rd_T39 t693 (ji76)).f1) == ((rd_T39 t718 x10_4).f1)) || ((!(((rd_T39 t693 (ji76)).f2.f0) == ((rd_T39 t718 x10_4).f2.f0)) || (!(((rd_T39 t693 (ji76)).f2.f1) == ((rd_T39 t718 x10_4).f2.f1))))))) = true then (some false) else (laws_FnCodeCat.l0 kj55 t693 t710 t718 (wrap64 (x10_4 + 1)))) else (none)) else (none)) = some r := by first | (rw [hji76] at H; exact H) | (simp only [hji76] at H ⊢; exact H)
                    have hji76w : (IntKind.i64.wrap ((t710.length : Int) + x10_4)) = ji76 := (i64_w _).trans hji76
                    by_cases c77 : 0 ≤ (ji76)
                    ·rw [if_pos c77] at H
                     have c77b0 : decide (0 ≤ (ji76)) = true := decide_eq_true c77
                     clear c77
                     by_cases c78 : (ji76) < (t693.length : Int)
                     ·rw [if_pos c78] at H
                      have c78b0 : decide ((ji76) < (t693.length : Int)) = true := decide_eq_true c78
                      clear c78
                      by_cases c79 : (!(((rd_T39 t693 (ji76)).f0) == ((rd_T39 t718 x10_4).f0)) || (!(((rd_T39 t693 (ji76)).f1) == ((rd_T39 t718 x10_4).f1)) || ((!(((rd_T39 t693 (ji76)).f2.f0) == ((rd_T39 t718 x10_4).f2.f0)) || (!(((rd_T39 t693 (ji76)).f2.f1) == ((rd_T39 t718 x10_4).f2.f1))))))) = true
                      ·rw [if_pos c79] at H
                       have c79b0 : (!(((rd_T39 t693 (ji76)).f0) == ((rd_T39 t718 x10_4).f0)) || (!(((rd_T39 t693 (ji76)).f1) == ((rd_T39 t718 x10_4).f1)) || ((!(((rd_T39 t693 (ji76)).f2.f0) == ((rd_T39 t718 x10_4).f2.f0)) || (!(((rd_T39 t693 (ji76)).f2.f1) == ((rd_T39 t718 x10_4).f2.f1))))))) = true := c79
                       clear c79
                       obtain rfl := Option.some.inj H
                       obtain ⟨Ao80, co80, eo80⟩ := Kd.R_slice HO_8.out
                       subst eo80
                       obtain ⟨Ao81, co81, eo81⟩ := Kd.R_slice HO_6.out
                       subst eo81
                       have p730 : 0 ≤ ((ji76) : Int) := of_decide_eq_true q4_2
                       have q730 : (ji76) < (t693.length : Int) := of_decide_eq_true q4_2
                       obtain ⟨ad730, e730, hx730_0, hx730_1, hx730_2, hx730_3⟩ := at_T39 (Kd.R_reads' HO_6.out).2.2 (ji76) p730 q730
                       cases e730
                       replace p730 := eq_true p730
                       replace q730 := eq_true q730
                       obtain ⟨hcz82_0, hcz82_1, hcz82_2, hcz82_3, hfz82_0, hfz82_1, hfz82_2, hfz82_3⟩ := cel4 BK728.out
                       go_wp2
                       repeat (go_quiet (fail); try go_wp2)
                       go_ret
                       exact ⟨by first | rfl | (simp [errW_none, errW_some] <;> rfl) | (simp only [← hji30, ← hji76]; first | rfl | (simp [errW_none, errW_some] <;> rfl)) | (simp [*, errW_none, errW_some] <;> rfl), mB HB.out⟩
                      ·rw [if_neg c79] at H
                       have c79b0 : (!(((rd_T39 t693 (ji76)).f0) == ((rd_T39 t718 x10_4).f0)) || (!(((rd_T39 t693 (ji76)).f1) == ((rd_T39 t718 x10_4).f1)) || ((!(((rd_T39 t693 (ji76)).f2.f0) == ((rd_T39 t718 x10_4).f2.f0)) || (!(((rd_T39 t693 (ji76)).f2.f1) == ((rd_T39 t718 x10_4).f2.f1))))))) = false := by simpa using c79
                       clear c79
                       have H' := z0 H
                       clear H
                       obtain ⟨Ao83, co83, eo83⟩ := Kd.R_slice HO_8.out
                       subst eo83
                       obtain ⟨Ao84, co84, eo84⟩ := Kd.R_slice HO_6.out
                       subst eo84
                       have p730 : 0 ≤ ((ji76) : Int) := of_decide_eq_true q4_2
                       have q730 : (ji76) < (t693.length : Int) := of_decide_eq_true q4_2
                       obtain ⟨ad730, e730, hx730_0, hx730_1, hx730_2, hx730_3⟩ := at_T39 (Kd.R_reads' HO_6.out).2.2 (ji76) p730 q730
                       cases e730
                       replace p730 := eq_true p730
                       replace q730 := eq_true q730
                       obtain ⟨hcz85_0, hcz85_1, hcz85_2, hcz85_3, hfz85_0, hfz85_1, hfz85_2, hfz85_3⟩ := cel4 BK728.out
                       go_wp2
                       repeat (go_quiet (fail); try go_wp2)
                       go_roundg kj55
                       case measure => have := HJ2.out; have := HJ7.out; have := HJ36.out; have := HK4.out; have := HJ55.out; omega
                       case rel => exact ⟨(wrap64 (x10_4 + 1)), rfy, H', ⟨by have := HJ2.out; have := HJ7.out; have := HJ36.out; have := HK4.out; have := HJ55.out; omega⟩, ⟨by (with_reducible repeat (first | apply Kd.R_alloc | apply Kd.R_drewN | apply Kd.R_drew)); exact Kd.R_mono HO_6.out (fun _ hk => ⟨hk.1, hk.2.1⟩)⟩, ⟨by (with_reducible repeat (first | apply Kd.R_alloc | apply Kd.R_drewN | apply Kd.R_drew)); exact Kd.R_mono HO_8.out (fun _ hk => ⟨hk.1, hk.2.1⟩)⟩, ⟨by (with_reducible repeat (first | apply Kd.R_alloc | apply Kd.R_drewN | apply Kd.R_drew)); exact Kd.R_mono HO_9.out (fun _ hk => ⟨hk.1, hk.2.1⟩)⟩, ⟨mB HB.out⟩⟩
                     ·rw [if_neg c78] at H
                      exact absurd H (by simp)
                    ·rw [if_neg c77] at H
                     exact absurd H (by simp)
                ·rw [if_neg c55] at H
                 exact absurd H (by simp)
               ·rw [if_neg c54] at H
                have c54b0 : decide (x10_4 < (t718.length : Int)) = false := decide_eq_false c54
                clear c54
                obtain rfl := Option.some.inj H
                obtain ⟨Ao86, co86, eo86⟩ := Kd.R_slice HO_9.out
                subst eo86
                go_wp2
                repeat (go_quiet (fail); try go_wp2)
                go_ret
                exact ⟨by first | rfl | (simp [errW_none, errW_some] <;> rfl) | (simp only [← hji30]; first | rfl | (simp [errW_none, errW_some] <;> rfl)) | (simp [*, errW_none, errW_some] <;> rfl), mB HB.out⟩
         ·rw [if_neg c32] at H
          exact absurd H (by simp)
        ·rw [if_neg c31] at H
         exact absurd H (by simp)

/-- THE ONE PURE STATEMENT of laws_FnCodeCat: yours. -/
def laws_FnCodeCat.Pure : Prop := ∀ (l0 : List Int) (l1 : List Int), l0.length ≤ maxLen → l0.length * 1 ≤ 140737488351232 → (∀ x ∈ l0, (Lit.int .u8 x).wf = true) → l1.length ≤ maxLen → l1.length * 1 ≤ 140737488351232 → (∀ x ∈ l1, (Lit.int .u8 x).wf = true) → ∃ k, laws_FnCodeCat.f k l0 l1 = some true
theorem laws_FnCodeCat.walk (P : laws_FnCodeCat.Pure) (a0 : Option Addr) (len0 cap0 : Nat) (z0 : List Int) (a1 : Option Addr) (len1 cap1 : Nat) (z1 : List Int) (w : World) (w0 : (a0 = none ∧ len0 = 0 ∧ cap0 = 0 ∧ z0 = []) ∨ ∃ x, a0 = some x ∧ len0 ≤ cap0 ∧ cap0 ≤ maxLen ∧ z0.length = cap0 ∧ (∀ i, i < z0.length → w.cell? (x.add i) = some (.int .u8 (z0.getD i 0))) ∧ ∀ n ∈ z0, (Lit.int .u8 n).wf = true) (y0 : len0 * 1 ≤ 140737488351232) (w1 : (a1 = none ∧ len1 = 0 ∧ cap1 = 0 ∧ z1 = []) ∨ ∃ x, a1 = some x ∧ len1 ≤ cap1 ∧ cap1 ≤ maxLen ∧ z1.length = cap1 ∧ (∀ i, i < z1.length → w.cell? (x.add i) = some (.int .u8 (z1.getD i 0))) ∧ ∀ n ∈ z1, (Lit.int .u8 n).wf = true) (y1 : len1 * 1 ≤ 140737488351232) :
  Calls Try.prog 4 #[.slice a0 len0 cap0, .slice a1 len1 cap1] w fun e w' => e = .returned (.bool true) ∧ Below w.heap.size w w' := by
 obtain ⟨l0, rfl, hr0, hm0, hw0, hc0⟩ := ReadsInt.ofRowC w0
 obtain ⟨l1, rfl, hr1, hm1, hw1, hc1⟩ := ReadsInt.ofRowC w1
 obtain ⟨k, h⟩ := P l0 l1 hm0 y0 hw0 hm1 y1 hw1
 refine (laws_FnCodeCat.calls k _ _ l0 _ _ l1 true w (Kd.C_of_reads (d := (0 : Int)) (h1 := fun _ => rfl) hr0) hc0 (Kd.C_of_reads (d := (0 : Int)) (h1 := fun _ => rfl) hr1) hc1 h).mono ?_
 rintro e w' ⟨rfl, hd⟩
 exact ⟨rfl, hd⟩

end Go.Proofs.Ytddnijmgipffeaa.B
