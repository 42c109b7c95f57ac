-- printed by base.py (this claim's tool) over the kit's print
import Derived.Test.YtiofkhfmdophpaaB0
import Derived.Test.YtiofkhfmdophpaaSq
import Derived.Test.YtiofkhfmdophpaaPkA
import Derived.Test.YtiofkhfmdophpaaZOf
import Derived.Test.YtiofkhfmdophpaaPkD
namespace Go.Proofs.Ytiofkhfmdophpaa.B
open Go.RowKit Go.Proofs.YtiofkhfmdophpaaW.PrintWords Go.Proofs.YtiofkhfmdophpaaW.PrintLast Go.Proofs.YtiofkhfmdophpaaW.PrintMore
attribute [local go_sem] max2_int min2_int max_two min_two max_three min_three max_four min_four   -- for this text's walks alone
set_option linter.unusedVariables false
set_option linter.unusedSimpArgs false

/-! ### laws_FnExprSwap: function 9 -/
mutual
def laws_FnExprSwap.j0 : Nat → List Int → List Int → Bool → Option (Bool)
 | 0, _, _, _ => none
 | k + 1, x0, x1, x21 => if x21 = true then (some true) else ((spec_DrawExprOf.f k x0).bind fun bt838 => ((spec_DrawExprOf.f k x1).bind fun bt856 => ((some (([3, 5, 7, 8, 9] : List Int) : List Int)).bind fun y874 => (laws_FnExprSwap.l0 k y874 (y874.length : Int) 0 bt838.1 bt838.2.1 bt838.2.2.1 bt838.2.2.2.1 bt838.2.2.2.2.1 bt838.2.2.2.2.2.1 bt838.2.2.2.2.2.2.1 bt838.2.2.2.2.2.2.2 bt856.1 bt856.2.1 bt856.2.2.1 bt856.2.2.2.1 bt856.2.2.2.2.1))))
def laws_FnExprSwap.l0 : Nat → List Int → Int → Int → Int → Int → Int → Int → List (S32) → List Int → List Int → List Int → Int → Int → Int → Int → List (S32) → Option (Bool)
 | 0, _, _, _, _, _, _, _, _, _, _, _, _, _, _, _, _ => none
 | k + 1, x32, x33, x34, x855000, x855001, x855002, x855003, x855004, x856000, x856001, x856002, x873000, x873001, x873002, x873003, x873004 => if x34 < x33 then (if 0 ≤ x34 then (if x34 < (x32.length : Int) then ((laws_wqTwo.f (rd x32 x34) x855000 x855001 x855002 x855003 x855004 x873000 x873001 x873002 x873003 x873004).bind fun bt878 => ((impl_ExprOf.f bt878.1 bt878.2.1 bt878.2.2.1 bt878.2.2.2.1 bt878.2.2.2.2 x856000 x856001 x856002).bind fun t886 => ((spec_ExprOf.f k bt878.1 bt878.2.1 bt878.2.2.1 bt878.2.2.2.1 bt878.2.2.2.2 x856000 x856001 x856002).bind fun t887 => (if t886 = t887 then ((laws_wqTwo.f (rd x32 x34) x873000 x873001 x873002 x873003 x873004 x855000 x855001 x855002 x855003 x855004).bind fun bt888 => ((impl_ExprOf.f bt888.1 bt888.2.1 bt888.2.2.1 bt888.2.2.2.1 bt888.2.2.2.2 x856000 x856001 x856002).bind fun t895 => (if t886 = t895 then (laws_FnExprSwap.l0 k x32 x33 (wrap64 (x34 + 1)) x855000 x855001 x855002 x855003 x855004 x856000 x856001 x856002 x873000 x873001 x873002 x873003 x873004) else (some false)))) else (some false))))) else (none)) else (none)) else ((laws_wqTwo.f 4 x855000 x855001 x855002 x855003 x855004 x873000 x873001 x873002 x873003 x873004).bind fun bt896 => ((impl_ExprOf.f bt896.1 bt896.2.1 bt896.2.2.1 bt896.2.2.2.1 bt896.2.2.2.2 x856000 x856001 x856002).bind fun t904 => ((laws_wqTwo.f 4 x873000 x873001 x873002 x873003 x873004 x855000 x855001 x855002 x855003 x855004).bind fun bt905 => ((impl_ExprOf.f bt905.1 bt905.2.1 bt905.2.2.1 bt905.2.2.2.1 bt905.2.2.2.2 x856000 x856001 x856002).bind fun t912 => (some (t904 == (wrap64 (-t912))))))))
end
def laws_FnExprSwap.f (k : Nat) (l0 : List Int) (l1 : List Int) : Option (Bool) := if (l0.length : Int) > 1048576 then (laws_FnExprSwap.j0 k l0 l1 true) else (laws_FnExprSwap.j0 k l0 l1 (decide ((l1.length : Int) > 1048576)))
def laws_FnExprSwap.T10 : Bool × List (List Nat × List Nat) := (true, [([], []), ([], []), ([], []), ([1, 2], [1, 2]), ([0, 3], [0, 3]), ([4, 3], [4]), ([5], [5]), ([5], [5]), ([5], [5]), ([5], [5]), ([7, 8, 9, 5, 5], [5, 7, 8, 9]), ([5], [5]), ([10, 11, 10, 5], [5, 10, 11]), ([6, 12, 5], [5, 6, 12]), ([5, 13], [5, 13])])
def laws_FnExprSwap.B10 : List Nat := [0, 0, 0, 6, 15, 31, 63, 63, 63, 63, 959, 63, 4031, 8191, 16383]
theorem laws_FnExprSwap.tab10 : rtab .any (opsOf Try.f9 10) = laws_FnExprSwap.T10 := by kernel_rfl
theorem laws_FnExprSwap.bits10 : waitsOk laws_FnExprSwap.T10.2 laws_FnExprSwap.B10 = true := by kernel_rfl
def laws_FnExprSwap.T14 : Bool × List (List Nat × List Nat) := (true, [([], []), ([], []), ([0, 1], [0, 1]), ([], []), ([], []), ([3, 4, 2], [3, 4]), ([], []), ([5, 6, 5], [5, 6]), ([7], [7]), ([2, 8], [2, 8]), ([9, 7, 0, 1, 2, 3, 4, 5, 6, 7, 8, 9], [9])])
def laws_FnExprSwap.B14 : List Nat := [0, 0, 3, 0, 0, 31, 0, 127, 255, 511, 1023]
theorem laws_FnExprSwap.tab14 : rtab .any (opsOf Try.f9 14) = laws_FnExprSwap.T14 := by kernel_rfl
theorem laws_FnExprSwap.bits14 : waitsOk laws_FnExprSwap.T14.2 laws_FnExprSwap.B14 = true := by kernel_rfl
set_option maxHeartbeats 8000000 in
set_option maxRecDepth 100000 in
theorem laws_FnExprSwap.calls (k : Nat) (A0 : Option Addr) (c0 : Nat) (l0 : List Int) (A1 : Option Addr) (c1 : Nat) (l1 : List Int) (r : Bool) (w : World) (hr0 : Kd.C (Kd.int .u8) w A0 l0.length l0) (hc0 : l0.length ≤ c0) (hr1 : Kd.C (Kd.int .u8) w A1 l1.length l1) (hc1 : l1.length ≤ c1) (h : laws_FnExprSwap.f k l0 l1 = some r) :
  Calls Try.prog 9 #[.slice A0 l0.length c0, .slice A1 l1.length c1] w fun e w' => e = .returned (.bool r) ∧ Below w.heap.size w w' := by
 have hu32 := Try.underlying32
 have hu44 := Try.underlying44
 have HR0 := z0 hr0
 have HC0 := z0 hc0
 clear hr0 hc0
 have HR1 := z0 hr1
 have HC1 := z0 hc1
 clear hr1 hc1
 have HB := z0 (Below.refl w.heap.size w)
 have H : (if (l0.length : Int) > 1048576 then (laws_FnExprSwap.j0 k l0 l1 true) else (laws_FnExprSwap.j0 k l0 l1 (decide ((l1.length : Int) > 1048576)))) = some r := h
 clear h
 have HC3 := z0 H
 clear H
 go_enter Try.func9, Try.ntmps9
 go_upto_region 1 with (fail)
 go_cut [21] (fun v21 wc => ∃ (kq : Nat) (x21_2 : Bool), v21 = .bool x21_2 ∧ Aside0 (laws_FnExprSwap.j0 kq l0 l1 x21_2 = some r) ∧ Aside0 (kq ≤ k) ∧ Aside0 (Below w.heap.size w wc))
 case first =>
  have H := HC3.out
  clear HC3
  by_cases c4 : (l0.length : Int) > 1048576
  ·rw [if_pos c4] at H
   have c4b0 : decide (1048576 < (l0.length : Int)) = true := decide_eq_true c4
   have c4b1 : decide (1048576 < l0.length) = true := decide_eq_true (by omega)
   clear c4
   (first | rw [c4b0] | (simp only [i64_w, i32_w]; rw [c4b0]) | skip)
   have H' := z0 H
   clear H
   go_wp2
   go_meet
   case rel => exact ⟨_, (true), rfy, H', ⟨by first | omega | exact Nat.le_refl _⟩, ⟨mB HB.out⟩⟩
  ·rw [if_neg c4] at H
   have c4b0 : decide (1048576 < (l0.length : Int)) = false := decide_eq_false c4
   have c4b1 : decide (1048576 < l0.length) = false := decide_eq_false (by omega)
   clear c4
   (first | rw [c4b0] | (simp only [i64_w, i32_w]; rw [c4b0]) | skip)
   have H' := z0 H
   clear H
   go_wp2
   go_meet
   case rel => exact ⟨_, (decide ((l1.length : Int) > 1048576)), rfy, H', ⟨by first | omega | exact Nat.le_refl _⟩, ⟨mB HB.out⟩⟩
 case rest =>
  clear HC3
  (try clear c1); (try clear p2); (try clear c4); (try clear c4b0); (try clear c4b1)
  obtain ⟨kq, x21_2, rfl, HA, HJ2, HB⟩ := hcut
  cases kq with
  | zero => exact absurd HA.out (by simp [laws_FnExprSwap.j0])
  | succ kj2 =>
   have H := HA.out
   clear HA
   simp only [laws_FnExprSwap.j0] at H
   by_cases c5 : x21_2 = true
   ·subst c5
    have H1 : (some true) = some r := by rw [if_pos rfl] at H; exact H
    clear H
    have H := H1
    clear H1
    obtain rfl := Option.some.inj H
    go_wp2
    go_ret
    exact ⟨rfx, mB HB.out⟩
   ·replace c5 := Bool.eq_false_iff.mpr c5
    subst c5
    have H1 : ((spec_DrawExprOf.f kj2 l0).bind fun bt838 => ((spec_DrawExprOf.f kj2 l1).bind fun bt856 => ((some (([3, 5, 7, 8, 9] : List Int) : List Int)).bind fun y874 => (laws_FnExprSwap.l0 kj2 y874 (y874.length : Int) 0 bt838.1 bt838.2.1 bt838.2.2.1 bt838.2.2.2.1 bt838.2.2.2.2.1 bt838.2.2.2.2.2.1 bt838.2.2.2.2.2.2.1 bt838.2.2.2.2.2.2.2 bt856.1 bt856.2.1 bt856.2.2.1 bt856.2.2.2.1 bt856.2.2.2.2.1)))) = some r := by rw [if_neg (show ¬ (false = true) by decide)] at H; exact H
    clear H
    have H := H1
    clear H1
    replace H := Option.bind_eq_some_iff.mp H
    obtain ⟨⟨t838, t839, t840, t841, t842, t845, t848, t851⟩, A60, H⟩ := H
    replace H : ((spec_DrawExprOf.f kj2 l1).bind fun bt856 => ((some (([3, 5, 7, 8, 9] : List Int) : List Int)).bind fun y874 => (laws_FnExprSwap.l0 kj2 y874 (y874.length : Int) 0 t838 t839 t840 t841 t842 t845 t848 t851 bt856.1 bt856.2.1 bt856.2.2.1 bt856.2.2.2.1 bt856.2.2.2.2.1))) = some r := H
    have A6 := z0 A60
    clear A60
    replace H := Option.bind_eq_some_iff.mp H
    obtain ⟨⟨t856, t857, t858, t859, t860, t863, t866, t869⟩, A70, H⟩ := H
    replace H : ((some (([3, 5, 7, 8, 9] : List Int) : List Int)).bind fun y874 => (laws_FnExprSwap.l0 kj2 y874 (y874.length : Int) 0 t838 t839 t840 t841 t842 t845 t848 t851 t856 t857 t858 t859 t860)) = some r := H
    have A7 := z0 A70
    clear A70
    obtain ⟨y874, hy874⟩ : ∃ y_ : List Int, y_ = (([3, 5, 7, 8, 9] : List Int)) := ⟨_, rfl⟩
    replace H : (laws_FnExprSwap.l0 kj2 y874 (y874.length : Int) 0 t838 t839 t840 t841 t842 t845 t848 t851 t856 t857 t858 t859 t860) = some r := by first | (rw [hy874]; with_reducible exact H) | (have H2_ := (Option.bind_some _ _).symm.trans H; rw [hy874]; with_reducible exact H2_) | (have H2_ := (Option.bind_some _ _).symm.trans H; with_reducible exact H2_) | with_reducible exact H | (rw [hy874]; exact H) | exact H
    have Ny874 := z0 hy874
    clear hy874
    have H' := z0 H
    clear H
    go_wp2_with (first | ((with_reducible refine gate_callee (f := 36) rfl ?_); refine goesL_ (some 24) rfl rfl Try.func36 (by kernel_rfl) rfl #[.slice A0 l0.length c0] rfl argx ?_; (with_reducible refine (spec_DrawExprOf.calls kj2 _ _ l0 t838 t839 t840 t841 t842 t845 t848 t851 _ ?side1 ?side2 A6.out).mono ?_); (case side1 => exact mC (Kd.C_below HR0.out HB.out)); (case side2 => exact HC0.out); rintro e w8 ⟨v843, v846, v849, v852, rfl, ho0, ho1, ho2, ho3, hb⟩; refine ⟨_, rfl, ?_⟩; have n0_ := z0 (Kd.N_lower (Kd.N_mono (ok' := fun k_ => nB k_ v846 ∧ nB k_ v849 ∧ nB k_ v852) ho0 (fun k_ hk_ => ⟨hk_.2.1, hk_.2.2.1, hk_.2.2.2⟩)) (below_size (mB HB.out))); have n1_ := z0 (Kd.R_lower (Kd.R_mono (ok' := fun k_ => nB k_ v849 ∧ nB k_ v852) ho1 (fun _ hk_ => hk_.2)) (below_size (mB HB.out))); have n2_ := z0 (Kd.R_lower (Kd.R_mono (ok' := fun k_ => nB k_ v846 ∧ nB k_ v852) ho2 (fun _ hk_ => hk_.2)) (below_size (mB HB.out))); have n3_ := z0 (Kd.R_lower (Kd.R_mono (ok' := fun k_ => nB k_ v846 ∧ nB k_ v849) ho3 (fun _ hk_ => hk_.2)) (below_size (mB HB.out))); have n4_ := z0 (below_step (mB HB.out) hb); clear HB; have HO844 := n0_; have HO847 := n1_; have HO850 := n2_; have HO853 := n3_; have HB := n4_; clear n0_ n1_ n2_ n3_ n4_; (try clear hb); (try clear hb2); (try clear hk); (try clear hi); (try clear ho0); (try clear ho1); (try clear ho2); (try clear ho3)) | ((with_reducible refine gate_dst (N := 5) rfl ?_); (try (refine gate_guard (by rfl) ?_; dsimp only)); refine box_event ?hg (N := 5) ?hd (cs := #[.int .i64 0, .int .i64 0, .int .i64 0, .int .i64 0, .slice none 0 0]) (t := 32) ?hr ?_; (case hd => rfl); (case hg => rfl); (case hr => first | (go_simp; done) | (go_simp; rfl)); intro gb854 hg w9 hbox hb; have n0_ := z0 (Kd.N_below (Kd.N_elderB (mN HO844.out) gb854 (Nat.le_of_eq hg.symm)) hb); have n1_ := z0 (Kd.R_below (mR HO847.out) hb); have n2_ := z0 (Kd.R_below (mR HO850.out) hb); have n3_ := z0 (Kd.R_below (mR HO853.out) hb); have n4_ := z0 (below_step (mB HB.out) hb); have n5_ := z0 (hbox); have n6_ := z0 ((by rw [hg]; exact (below_size (mB HB.out)) : w.heap.size ≤ gb854)); have n7_ := z0 ((by rw [hg]; exact (below_size (mB HB.out)) : w.heap.size ≤ gb854)); clear HO844; clear HO847; clear HO850; clear HO853; clear HB; have HO844 := n0_; have HO847 := n1_; have HO850 := n2_; have HO853 := n3_; have HB := n4_; have BK854 := n5_; have GW854 := n6_; have GE854 := n7_; clear n0_ n1_ n2_ n3_ n4_ n5_ n6_ n7_; clear hb hbox hg) | ((with_reducible refine gate_dst (N := 6) rfl ?_); (try (refine gate_guard (by rfl) ?_; dsimp only)); refine box_event ?hg (N := 6) ?hd (cs := #[.slice none 0 0, .slice none 0 0, .slice none 0 0]) (t := 44) ?hr ?_; (case hd => rfl); (case hg => rfl); (case hr => first | (go_simp; done) | (go_simp; rfl)); intro gb855 hg w10 hbox hb; have n0_ := z0 (Kd.N_below (Kd.N_elderB (mN HO844.out) gb855 (Nat.le_of_eq hg.symm)) hb); have n1_ := z0 (Kd.R_below (mR HO847.out) hb); have n2_ := z0 (Kd.R_below (mR HO850.out) hb); have n3_ := z0 (Kd.R_below (mR HO853.out) hb); have n4_ := z0 (blk_below (g := gb854) (o := .cells #[.int .i64 0, .int .i64 0, .int .i64 0, .int .i64 0, .slice none 0 0] 32 (0, 0)) (mK BK854.out) hb); have n5_ := z0 (below_step (mB HB.out) hb); have n6_ := z0 (hbox); have n7_ := z0 ((by rw [hg]; exact (below_size (mB HB.out)) : w.heap.size ≤ gb855)); have n8_ := z0 ((by rw [hg]; exact (below_size (mB HB.out)) : w.heap.size ≤ gb855)); have n9_ := z0 ((by rw [hg]; exact Nat.ne_of_lt (blk_lt (g := gb854) (o := .cells #[.int .i64 0, .int .i64 0, .int .i64 0, .int .i64 0, .slice none 0 0] 32 (0, 0)) (mK BK854.out)) : gb854 ≠ gb855)); have n10_ := z0 ((by rw [hg]; exact Nat.ne_of_gt (blk_lt (g := gb854) (o := .cells #[.int .i64 0, .int .i64 0, .int .i64 0, .int .i64 0, .slice none 0 0] 32 (0, 0)) (mK BK854.out)) : gb855 ≠ gb854)); clear HO844; clear HO847; clear HO850; clear HO853; clear BK854; clear HB; have HO844 := n0_; have HO847 := n1_; have HO850 := n2_; have HO853 := n3_; have BK854 := n4_; have HB := n5_; have BK855 := n6_; have GW855 := n7_; have GE855 := n8_; have NB854_855 := n9_; have NB855_854 := n10_; clear n0_ n1_ n2_ n3_ n4_ n5_ n6_ n7_ n8_ n9_ n10_; clear hb hbox hg; have hnb11 := NB854_855.out; have hnc11 := NB855_854.out; obtain ⟨hcz12_0, hcz12_1, hcz12_2, hcz12_3, hcz12_4, hfz12_0, hfz12_1, hfz12_2, hfz12_3, hfz12_4⟩ := cel5 BK854.out; obtain ⟨Ao13, co13, eo13⟩ := Kd.N_slice HO844.out; subst eo13; obtain ⟨Ao14, co14, eo14⟩ := Kd.R_slice HO847.out; subst eo14; obtain ⟨hcz15_0, hcz15_1, hcz15_2, hfz15_0, hfz15_1, hfz15_2⟩ := cel3 BK855.out; obtain ⟨Ao16, co16, eo16⟩ := Kd.R_slice HO850.out; subst eo16; obtain ⟨Ao17, co17, eo17⟩ := Kd.R_slice HO853.out; subst eo17) | ((with_reducible refine gate_callee (f := 36) rfl ?_); refine goesL_ (some 29) rfl rfl Try.func36 (by kernel_rfl) rfl #[.slice A1 l1.length c1] rfl argx ?_; (with_reducible refine (spec_DrawExprOf.calls kj2 _ _ l1 t856 t857 t858 t859 t860 t863 t866 t869 _ ?side1 ?side2 A7.out).mono ?_); (case side1 => exact Kd.C_below HR1.out (mB HB.out)); (case side2 => exact HC1.out); rintro e w18 ⟨v861, v864, v867, v870, rfl, ho0, ho1, ho2, ho3, hb⟩; refine ⟨_, rfl, ?_⟩; have n0_ := z0 (Kd.N_mono (Kd.N_told (Kd.N_told (Kd.N_told (Kd.N_told (Kd.N_old (by (with_reducible repeat (first | apply Kd.N_alloc | apply Kd.N_drewN | apply Kd.N_drew)); exact (Kd.N_mono (Kd.N_mono (Kd.N_far (p := ⟨gb855, 2, none⟩) (Kd.N_far (p := ⟨gb855, 1, none⟩) (Kd.N_far (p := ⟨gb855, 0, none⟩) (Kd.N_far (p := ⟨gb854, 4, none⟩) (Kd.N_far (p := ⟨gb854, 3, none⟩) (Kd.N_far (p := ⟨gb854, 2, none⟩) (Kd.N_far (p := ⟨gb854, 1, none⟩) (Kd.N_far (p := ⟨gb854, 0, none⟩) (Kd.N_mono (Kd.N_mono HO844.out (fun k_ hk => (⟨hk, hk.1.2⟩ : _ ∧ k_ ≠ gb854))) (fun k_ hk => (⟨hk, hk.1.2⟩ : _ ∧ k_ ≠ gb855))) (fun _ hk => hk.1.2) (.int .i64 t838)) (fun _ hk => hk.1.2) (.int .i64 t839)) (fun _ hk => hk.1.2) (.int .i64 t840)) (fun _ hk => hk.1.2) (.int .i64 t841)) (fun _ hk => hk.1.2) (.slice Ao13 t842.length co13)) (fun _ hk => hk.2) (.slice Ao14 t845.length co14)) (fun _ hk => hk.2) (.slice Ao16 t848.length co16)) (fun _ hk => hk.2) (.slice Ao17 t851.length co17)) (fun _ h_ => h_.1)) (fun _ h_ => h_.1))) hb) (Kd.N_base ho0)) (Kd.R_base ho1)) (Kd.R_base ho2)) (Kd.R_base ho3)) (fun _ h_ => h_.1)); have n1_ := z0 (Kd.R_mono (Kd.R_told (Kd.R_told (Kd.R_told (Kd.R_old (by (with_reducible repeat (first | apply Kd.R_alloc | apply Kd.R_drewN | apply Kd.R_drew)); exact (Kd.R_mono (Kd.R_mono (Kd.R_far (p := ⟨gb855, 2, none⟩) (Kd.R_far (p := ⟨gb855, 1, none⟩) (Kd.R_far (p := ⟨gb855, 0, none⟩) (Kd.R_far (p := ⟨gb854, 4, none⟩) (Kd.R_far (p := ⟨gb854, 3, none⟩) (Kd.R_far (p := ⟨gb854, 2, none⟩) (Kd.R_far (p := ⟨gb854, 1, none⟩) (Kd.R_far (p := ⟨gb854, 0, none⟩) (Kd.R_types (Kd.R_types HO847.out BK854.out (by decide)) BK855.out (by decide)) (fun _ hk => hk.1.2) (.int .i64 t838)) (fun _ hk => hk.1.2) (.int .i64 t839)) (fun _ hk => hk.1.2) (.int .i64 t840)) (fun _ hk => hk.1.2) (.int .i64 t841)) (fun _ hk => hk.1.2) (.slice Ao13 t842.length co13)) (fun _ hk => hk.2) (.slice Ao14 t845.length co14)) (fun _ hk => hk.2) (.slice Ao16 t848.length co16)) (fun _ hk => hk.2) (.slice Ao17 t851.length co17)) (fun _ h_ => h_.1)) (fun _ h_ => h_.1))) hb) (Kd.R_base ho1)) (Kd.R_base ho2)) (Kd.R_base ho3)) (fun _ h_ => h_.1)); have n2_ := z0 (Kd.R_mono (Kd.R_told (Kd.R_told (Kd.R_told (Kd.R_old (by (with_reducible repeat (first | apply Kd.R_alloc | apply Kd.R_drewN | apply Kd.R_drew)); exact (Kd.R_mono (Kd.R_mono (Kd.R_far (p := ⟨gb855, 2, none⟩) (Kd.R_far (p := ⟨gb855, 1, none⟩) (Kd.R_far (p := ⟨gb855, 0, none⟩) (Kd.R_far (p := ⟨gb854, 4, none⟩) (Kd.R_far (p := ⟨gb854, 3, none⟩) (Kd.R_far (p := ⟨gb854, 2, none⟩) (Kd.R_far (p := ⟨gb854, 1, none⟩) (Kd.R_far (p := ⟨gb854, 0, none⟩) (Kd.R_types (Kd.R_types HO850.out BK854.out (by decide)) BK855.out (by decide)) (fun _ hk => hk.1.2) (.int .i64 t838)) (fun _ hk => hk.1.2) (.int .i64 t839)) (fun _ hk => hk.1.2) (.int .i64 t840)) (fun _ hk => hk.1.2) (.int .i64 t841)) (fun _ hk => hk.1.2) (.slice Ao13 t842.length co13)) (fun _ hk => hk.2) (.slice Ao14 t845.length co14)) (fun _ hk => hk.2) (.slice Ao16 t848.length co16)) (fun _ hk => hk.2) (.slice Ao17 t851.length co17)) (fun _ h_ => h_.1)) (fun _ h_ => h_.1))) hb) (Kd.R_base ho1)) (Kd.R_base ho2)) (Kd.R_base ho3)) (fun _ h_ => h_.1)); have n3_ := z0 (Kd.R_mono (Kd.R_told (Kd.R_told (Kd.R_told (Kd.R_old (by (with_reducible repeat (first | apply Kd.R_alloc | apply Kd.R_drewN | apply Kd.R_drew)); exact (Kd.R_mono (Kd.R_mono (Kd.R_far (p := ⟨gb855, 2, none⟩) (Kd.R_far (p := ⟨gb855, 1, none⟩) (Kd.R_far (p := ⟨gb855, 0, none⟩) (Kd.R_far (p := ⟨gb854, 4, none⟩) (Kd.R_far (p := ⟨gb854, 3, none⟩) (Kd.R_far (p := ⟨gb854, 2, none⟩) (Kd.R_far (p := ⟨gb854, 1, none⟩) (Kd.R_far (p := ⟨gb854, 0, none⟩) (Kd.R_types (Kd.R_types HO853.out BK854.out (by decide)) BK855.out (by decide)) (fun _ hk => hk.1.2) (.int .i64 t838)) (fun _ hk => hk.1.2) (.int .i64 t839)) (fun _ hk => hk.1.2) (.int .i64 t840)) (fun _ hk => hk.1.2) (.int .i64 t841)) (fun _ hk => hk.1.2) (.slice Ao13 t842.length co13)) (fun _ hk => hk.2) (.slice Ao14 t845.length co14)) (fun _ hk => hk.2) (.slice Ao16 t848.length co16)) (fun _ hk => hk.2) (.slice Ao17 t851.length co17)) (fun _ h_ => h_.1)) (fun _ h_ => h_.1))) hb) (Kd.R_base ho1)) (Kd.R_base ho2)) (Kd.R_base ho3)) (fun _ h_ => h_.1)); have n4_ := z0 (Kd.N_lower (Kd.N_mono (ok' := fun k_ => nB k_ v864 ∧ nB k_ v867 ∧ nB k_ v870 ∧ nB k_ (.slice Ao13 t842.length co13) ∧ nB k_ (.slice Ao14 t845.length co14) ∧ nB k_ (.slice Ao16 t848.length co16) ∧ nB k_ (.slice Ao17 t851.length co17) ∧ k_ ≠ gb854 ∧ k_ ≠ gb855) ho0 (fun k_ hk_ => ⟨hk_.2.1, hk_.2.2.1, hk_.2.2.2, (Kd.fresh' (Kd.N_lt (by (with_reducible repeat (first | apply Kd.N_alloc | apply Kd.N_drewN | apply Kd.N_drew)); exact (Kd.N_mono (Kd.N_mono (Kd.N_far (p := ⟨gb855, 2, none⟩) (Kd.N_far (p := ⟨gb855, 1, none⟩) (Kd.N_far (p := ⟨gb855, 0, none⟩) (Kd.N_far (p := ⟨gb854, 4, none⟩) (Kd.N_far (p := ⟨gb854, 3, none⟩) (Kd.N_far (p := ⟨gb854, 2, none⟩) (Kd.N_far (p := ⟨gb854, 1, none⟩) (Kd.N_far (p := ⟨gb854, 0, none⟩) (Kd.N_mono (Kd.N_mono HO844.out (fun k_ hk => (⟨hk, hk.1.2⟩ : _ ∧ k_ ≠ gb854))) (fun k_ hk => (⟨hk, hk.1.2⟩ : _ ∧ k_ ≠ gb855))) (fun _ hk => hk.1.2) (.int .i64 t838)) (fun _ hk => hk.1.2) (.int .i64 t839)) (fun _ hk => hk.1.2) (.int .i64 t840)) (fun _ hk => hk.1.2) (.int .i64 t841)) (fun _ hk => hk.1.2) (.slice Ao13 t842.length co13)) (fun _ hk => hk.2) (.slice Ao14 t845.length co14)) (fun _ hk => hk.2) (.slice Ao16 t848.length co16)) (fun _ hk => hk.2) (.slice Ao17 t851.length co17)) (fun _ h_ => h_.1)) (fun _ h_ => h_.1)))) k_ hk_.1), (Kd.fresh' (Kd.R_lt (by (with_reducible repeat (first | apply Kd.R_alloc | apply Kd.R_drewN | apply Kd.R_drew)); exact (Kd.R_mono (Kd.R_mono (Kd.R_far (p := ⟨gb855, 2, none⟩) (Kd.R_far (p := ⟨gb855, 1, none⟩) (Kd.R_far (p := ⟨gb855, 0, none⟩) (Kd.R_far (p := ⟨gb854, 4, none⟩) (Kd.R_far (p := ⟨gb854, 3, none⟩) (Kd.R_far (p := ⟨gb854, 2, none⟩) (Kd.R_far (p := ⟨gb854, 1, none⟩) (Kd.R_far (p := ⟨gb854, 0, none⟩) (Kd.R_types (Kd.R_types HO847.out BK854.out (by decide)) BK855.out (by decide)) (fun _ hk => hk.1.2) (.int .i64 t838)) (fun _ hk => hk.1.2) (.int .i64 t839)) (fun _ hk => hk.1.2) (.int .i64 t840)) (fun _ hk => hk.1.2) (.int .i64 t841)) (fun _ hk => hk.1.2) (.slice Ao13 t842.length co13)) (fun _ hk => hk.2) (.slice Ao14 t845.length co14)) (fun _ hk => hk.2) (.slice Ao16 t848.length co16)) (fun _ hk => hk.2) (.slice Ao17 t851.length co17)) (fun _ h_ => h_.1)) (fun _ h_ => h_.1)))) k_ hk_.1), (Kd.fresh' (Kd.R_lt (by (with_reducible repeat (first | apply Kd.R_alloc | apply Kd.R_drewN | apply Kd.R_drew)); exact (Kd.R_mono (Kd.R_mono (Kd.R_far (p := ⟨gb855, 2, none⟩) (Kd.R_far (p := ⟨gb855, 1, none⟩) (Kd.R_far (p := ⟨gb855, 0, none⟩) (Kd.R_far (p := ⟨gb854, 4, none⟩) (Kd.R_far (p := ⟨gb854, 3, none⟩) (Kd.R_far (p := ⟨gb854, 2, none⟩) (Kd.R_far (p := ⟨gb854, 1, none⟩) (Kd.R_far (p := ⟨gb854, 0, none⟩) (Kd.R_types (Kd.R_types HO850.out BK854.out (by decide)) BK855.out (by decide)) (fun _ hk => hk.1.2) (.int .i64 t838)) (fun _ hk => hk.1.2) (.int .i64 t839)) (fun _ hk => hk.1.2) (.int .i64 t840)) (fun _ hk => hk.1.2) (.int .i64 t841)) (fun _ hk => hk.1.2) (.slice Ao13 t842.length co13)) (fun _ hk => hk.2) (.slice Ao14 t845.length co14)) (fun _ hk => hk.2) (.slice Ao16 t848.length co16)) (fun _ hk => hk.2) (.slice Ao17 t851.length co17)) (fun _ h_ => h_.1)) (fun _ h_ => h_.1)))) k_ hk_.1), (Kd.fresh' (Kd.R_lt (by (with_reducible repeat (first | apply Kd.R_alloc | apply Kd.R_drewN | apply Kd.R_drew)); exact (Kd.R_mono (Kd.R_mono (Kd.R_far (p := ⟨gb855, 2, none⟩) (Kd.R_far (p := ⟨gb855, 1, none⟩) (Kd.R_far (p := ⟨gb855, 0, none⟩) (Kd.R_far (p := ⟨gb854, 4, none⟩) (Kd.R_far (p := ⟨gb854, 3, none⟩) (Kd.R_far (p := ⟨gb854, 2, none⟩) (Kd.R_far (p := ⟨gb854, 1, none⟩) (Kd.R_far (p := ⟨gb854, 0, none⟩) (Kd.R_types (Kd.R_types HO853.out BK854.out (by decide)) BK855.out (by decide)) (fun _ hk => hk.1.2) (.int .i64 t838)) (fun _ hk => hk.1.2) (.int .i64 t839)) (fun _ hk => hk.1.2) (.int .i64 t840)) (fun _ hk => hk.1.2) (.int .i64 t841)) (fun _ hk => hk.1.2) (.slice Ao13 t842.length co13)) (fun _ hk => hk.2) (.slice Ao14 t845.length co14)) (fun _ hk => hk.2) (.slice Ao16 t848.length co16)) (fun _ hk => hk.2) (.slice Ao17 t851.length co17)) (fun _ h_ => h_.1)) (fun _ h_ => h_.1)))) k_ hk_.1), (Kd.freshB (g := gb854) (o := .cells #[.int .i64 t838, .int .i64 t839, .int .i64 t840, .int .i64 t841, .slice Ao13 t842.length co13] 32 (0, 0)) (by (with_reducible repeat (first | refine blk_drewN ?_ _ | refine blk_drew ?_ | refine blk_alloc ?_ _)); refine blk_far ?_ NB854_855.out _; (with_reducible repeat (first | refine blk_drewN ?_ _ | refine blk_drew ?_ | refine blk_alloc ?_ _)); refine blk_far ?_ NB854_855.out _; (with_reducible repeat (first | refine blk_drewN ?_ _ | refine blk_drew ?_ | refine blk_alloc ?_ _)); refine blk_far ?_ NB854_855.out _; (with_reducible repeat (first | refine blk_drewN ?_ _ | refine blk_drew ?_ | refine blk_alloc ?_ _)); refine blk_put (cs := #[.int .i64 t838, .int .i64 t839, .int .i64 t840, .int .i64 t841, .slice none 0 0]) ?_ 4 _ rfl; (with_reducible repeat (first | refine blk_drewN ?_ _ | refine blk_drew ?_ | refine blk_alloc ?_ _)); refine blk_put (cs := #[.int .i64 t838, .int .i64 t839, .int .i64 t840, .int .i64 0, .slice none 0 0]) ?_ 3 _ rfl; (with_reducible repeat (first | refine blk_drewN ?_ _ | refine blk_drew ?_ | refine blk_alloc ?_ _)); refine blk_put (cs := #[.int .i64 t838, .int .i64 t839, .int .i64 0, .int .i64 0, .slice none 0 0]) ?_ 2 _ rfl; (with_reducible repeat (first | refine blk_drewN ?_ _ | refine blk_drew ?_ | refine blk_alloc ?_ _)); refine blk_put (cs := #[.int .i64 t838, .int .i64 0, .int .i64 0, .int .i64 0, .slice none 0 0]) ?_ 1 _ rfl; (with_reducible repeat (first | refine blk_drewN ?_ _ | refine blk_drew ?_ | refine blk_alloc ?_ _)); refine blk_put (cs := #[.int .i64 0, .int .i64 0, .int .i64 0, .int .i64 0, .slice none 0 0]) ?_ 0 _ rfl; (with_reducible repeat (first | refine blk_drewN ?_ _ | refine blk_drew ?_ | refine blk_alloc ?_ _)); exact BK854.out) k_ hk_.1), (Kd.freshB (g := gb855) (o := .cells #[.slice Ao14 t845.length co14, .slice Ao16 t848.length co16, .slice Ao17 t851.length co17] 44 (0, 0)) (by (with_reducible repeat (first | refine blk_drewN ?_ _ | refine blk_drew ?_ | refine blk_alloc ?_ _)); refine blk_put (cs := #[.slice Ao14 t845.length co14, .slice Ao16 t848.length co16, .slice none 0 0]) ?_ 2 _ rfl; (with_reducible repeat (first | refine blk_drewN ?_ _ | refine blk_drew ?_ | refine blk_alloc ?_ _)); refine blk_put (cs := #[.slice Ao14 t845.length co14, .slice none 0 0, .slice none 0 0]) ?_ 1 _ rfl; (with_reducible repeat (first | refine blk_drewN ?_ _ | refine blk_drew ?_ | refine blk_alloc ?_ _)); refine blk_put (cs := #[.slice none 0 0, .slice none 0 0, .slice none 0 0]) ?_ 0 _ rfl; (with_reducible repeat (first | refine blk_drewN ?_ _ | refine blk_drew ?_ | refine blk_alloc ?_ _)); refine blk_far ?_ NB855_854.out _; (with_reducible repeat (first | refine blk_drewN ?_ _ | refine blk_drew ?_ | refine blk_alloc ?_ _)); refine blk_far ?_ NB855_854.out _; (with_reducible repeat (first | refine blk_drewN ?_ _ | refine blk_drew ?_ | refine blk_alloc ?_ _)); refine blk_far ?_ NB855_854.out _; (with_reducible repeat (first | refine blk_drewN ?_ _ | refine blk_drew ?_ | refine blk_alloc ?_ _)); refine blk_far ?_ NB855_854.out _; (with_reducible repeat (first | refine blk_drewN ?_ _ | refine blk_drew ?_ | refine blk_alloc ?_ _)); refine blk_far ?_ NB855_854.out _; (with_reducible repeat (first | refine blk_drewN ?_ _ | refine blk_drew ?_ | refine blk_alloc ?_ _)); exact BK855.out) k_ hk_.1)⟩)) (below_size (mB HB.out))); have n5_ := z0 (Kd.R_lower (Kd.R_new' (Kd.R_new' (Kd.R_new' (Kd.R_mono (ok' := fun k_ => nB k_ v867 ∧ nB k_ v870) ho1 (fun _ hk_ => hk_.2)) (Kd.R_lt (by (with_reducible repeat (first | apply Kd.R_alloc | apply Kd.R_drewN | apply Kd.R_drew)); exact (Kd.R_mono (Kd.R_mono (Kd.R_far (p := ⟨gb855, 2, none⟩) (Kd.R_far (p := ⟨gb855, 1, none⟩) (Kd.R_far (p := ⟨gb855, 0, none⟩) (Kd.R_far (p := ⟨gb854, 4, none⟩) (Kd.R_far (p := ⟨gb854, 3, none⟩) (Kd.R_far (p := ⟨gb854, 2, none⟩) (Kd.R_far (p := ⟨gb854, 1, none⟩) (Kd.R_far (p := ⟨gb854, 0, none⟩) (Kd.R_types (Kd.R_types HO847.out BK854.out (by decide)) BK855.out (by decide)) (fun _ hk => hk.1.2) (.int .i64 t838)) (fun _ hk => hk.1.2) (.int .i64 t839)) (fun _ hk => hk.1.2) (.int .i64 t840)) (fun _ hk => hk.1.2) (.int .i64 t841)) (fun _ hk => hk.1.2) (.slice Ao13 t842.length co13)) (fun _ hk => hk.2) (.slice Ao14 t845.length co14)) (fun _ hk => hk.2) (.slice Ao16 t848.length co16)) (fun _ hk => hk.2) (.slice Ao17 t851.length co17)) (fun _ h_ => h_.1)) (fun _ h_ => h_.1))))) (Kd.R_lt (by (with_reducible repeat (first | apply Kd.R_alloc | apply Kd.R_drewN | apply Kd.R_drew)); exact (Kd.R_mono (Kd.R_mono (Kd.R_far (p := ⟨gb855, 2, none⟩) (Kd.R_far (p := ⟨gb855, 1, none⟩) (Kd.R_far (p := ⟨gb855, 0, none⟩) (Kd.R_far (p := ⟨gb854, 4, none⟩) (Kd.R_far (p := ⟨gb854, 3, none⟩) (Kd.R_far (p := ⟨gb854, 2, none⟩) (Kd.R_far (p := ⟨gb854, 1, none⟩) (Kd.R_far (p := ⟨gb854, 0, none⟩) (Kd.R_types (Kd.R_types HO850.out BK854.out (by decide)) BK855.out (by decide)) (fun _ hk => hk.1.2) (.int .i64 t838)) (fun _ hk => hk.1.2) (.int .i64 t839)) (fun _ hk => hk.1.2) (.int .i64 t840)) (fun _ hk => hk.1.2) (.int .i64 t841)) (fun _ hk => hk.1.2) (.slice Ao13 t842.length co13)) (fun _ hk => hk.2) (.slice Ao14 t845.length co14)) (fun _ hk => hk.2) (.slice Ao16 t848.length co16)) (fun _ hk => hk.2) (.slice Ao17 t851.length co17)) (fun _ h_ => h_.1)) (fun _ h_ => h_.1))))) (Kd.R_lt (by (with_reducible repeat (first | apply Kd.R_alloc | apply Kd.R_drewN | apply Kd.R_drew)); exact (Kd.R_mono (Kd.R_mono (Kd.R_far (p := ⟨gb855, 2, none⟩) (Kd.R_far (p := ⟨gb855, 1, none⟩) (Kd.R_far (p := ⟨gb855, 0, none⟩) (Kd.R_far (p := ⟨gb854, 4, none⟩) (Kd.R_far (p := ⟨gb854, 3, none⟩) (Kd.R_far (p := ⟨gb854, 2, none⟩) (Kd.R_far (p := ⟨gb854, 1, none⟩) (Kd.R_far (p := ⟨gb854, 0, none⟩) (Kd.R_types (Kd.R_types HO853.out BK854.out (by decide)) BK855.out (by decide)) (fun _ hk => hk.1.2) (.int .i64 t838)) (fun _ hk => hk.1.2) (.int .i64 t839)) (fun _ hk => hk.1.2) (.int .i64 t840)) (fun _ hk => hk.1.2) (.int .i64 t841)) (fun _ hk => hk.1.2) (.slice Ao13 t842.length co13)) (fun _ hk => hk.2) (.slice Ao14 t845.length co14)) (fun _ hk => hk.2) (.slice Ao16 t848.length co16)) (fun _ hk => hk.2) (.slice Ao17 t851.length co17)) (fun _ h_ => h_.1)) (fun _ h_ => h_.1))))) (below_size (mB HB.out))); have n6_ := z0 (Kd.R_lower (Kd.R_new' (Kd.R_new' (Kd.R_new' (Kd.R_mono (ok' := fun k_ => nB k_ v864 ∧ nB k_ v870) ho2 (fun _ hk_ => hk_.2)) (Kd.R_lt (by (with_reducible repeat (first | apply Kd.R_alloc | apply Kd.R_drewN | apply Kd.R_drew)); exact (Kd.R_mono (Kd.R_mono (Kd.R_far (p := ⟨gb855, 2, none⟩) (Kd.R_far (p := ⟨gb855, 1, none⟩) (Kd.R_far (p := ⟨gb855, 0, none⟩) (Kd.R_far (p := ⟨gb854, 4, none⟩) (Kd.R_far (p := ⟨gb854, 3, none⟩) (Kd.R_far (p := ⟨gb854, 2, none⟩) (Kd.R_far (p := ⟨gb854, 1, none⟩) (Kd.R_far (p := ⟨gb854, 0, none⟩) (Kd.R_types (Kd.R_types HO847.out BK854.out (by decide)) BK855.out (by decide)) (fun _ hk => hk.1.2) (.int .i64 t838)) (fun _ hk => hk.1.2) (.int .i64 t839)) (fun _ hk => hk.1.2) (.int .i64 t840)) (fun _ hk => hk.1.2) (.int .i64 t841)) (fun _ hk => hk.1.2) (.slice Ao13 t842.length co13)) (fun _ hk => hk.2) (.slice Ao14 t845.length co14)) (fun _ hk => hk.2) (.slice Ao16 t848.length co16)) (fun _ hk => hk.2) (.slice Ao17 t851.length co17)) (fun _ h_ => h_.1)) (fun _ h_ => h_.1))))) (Kd.R_lt (by (with_reducible repeat (first | apply Kd.R_alloc | apply Kd.R_drewN | apply Kd.R_drew)); exact (Kd.R_mono (Kd.R_mono (Kd.R_far (p := ⟨gb855, 2, none⟩) (Kd.R_far (p := ⟨gb855, 1, none⟩) (Kd.R_far (p := ⟨gb855, 0, none⟩) (Kd.R_far (p := ⟨gb854, 4, none⟩) (Kd.R_far (p := ⟨gb854, 3, none⟩) (Kd.R_far (p := ⟨gb854, 2, none⟩) (Kd.R_far (p := ⟨gb854, 1, none⟩) (Kd.R_far (p := ⟨gb854, 0, none⟩) (Kd.R_types (Kd.R_types HO850.out BK854.out (by decide)) BK855.out (by decide)) (fun _ hk => hk.1.2) (.int .i64 t838)) (fun _ hk => hk.1.2) (.int .i64 t839)) (fun _ hk => hk.1.2) (.int .i64 t840)) (fun _ hk => hk.1.2) (.int .i64 t841)) (fun _ hk => hk.1.2) (.slice Ao13 t842.length co13)) (fun _ hk => hk.2) (.slice Ao14 t845.length co14)) (fun _ hk => hk.2) (.slice Ao16 t848.length co16)) (fun _ hk => hk.2) (.slice Ao17 t851.length co17)) (fun _ h_ => h_.1)) (fun _ h_ => h_.1))))) (Kd.R_lt (by (with_reducible repeat (first | apply Kd.R_alloc | apply Kd.R_drewN | apply Kd.R_drew)); exact (Kd.R_mono (Kd.R_mono (Kd.R_far (p := ⟨gb855, 2, none⟩) (Kd.R_far (p := ⟨gb855, 1, none⟩) (Kd.R_far (p := ⟨gb855, 0, none⟩) (Kd.R_far (p := ⟨gb854, 4, none⟩) (Kd.R_far (p := ⟨gb854, 3, none⟩) (Kd.R_far (p := ⟨gb854, 2, none⟩) (Kd.R_far (p := ⟨gb854, 1, none⟩) (Kd.R_far (p := ⟨gb854, 0, none⟩) (Kd.R_types (Kd.R_types HO853.out BK854.out (by decide)) BK855.out (by decide)) (fun _ hk => hk.1.2) (.int .i64 t838)) (fun _ hk => hk.1.2) (.int .i64 t839)) (fun _ hk => hk.1.2) (.int .i64 t840)) (fun _ hk => hk.1.2) (.int .i64 t841)) (fun _ hk => hk.1.2) (.slice Ao13 t842.length co13)) (fun _ hk => hk.2) (.slice Ao14 t845.length co14)) (fun _ hk => hk.2) (.slice Ao16 t848.length co16)) (fun _ hk => hk.2) (.slice Ao17 t851.length co17)) (fun _ h_ => h_.1)) (fun _ h_ => h_.1))))) (below_size (mB HB.out))); have n7_ := z0 (Kd.R_lower (Kd.R_new' (Kd.R_new' (Kd.R_new' (Kd.R_mono (ok' := fun k_ => nB k_ v864 ∧ nB k_ v867) ho3 (fun _ hk_ => hk_.2)) (Kd.R_lt (by (with_reducible repeat (first | apply Kd.R_alloc | apply Kd.R_drewN | apply Kd.R_drew)); exact (Kd.R_mono (Kd.R_mono (Kd.R_far (p := ⟨gb855, 2, none⟩) (Kd.R_far (p := ⟨gb855, 1, none⟩) (Kd.R_far (p := ⟨gb855, 0, none⟩) (Kd.R_far (p := ⟨gb854, 4, none⟩) (Kd.R_far (p := ⟨gb854, 3, none⟩) (Kd.R_far (p := ⟨gb854, 2, none⟩) (Kd.R_far (p := ⟨gb854, 1, none⟩) (Kd.R_far (p := ⟨gb854, 0, none⟩) (Kd.R_types (Kd.R_types HO847.out BK854.out (by decide)) BK855.out (by decide)) (fun _ hk => hk.1.2) (.int .i64 t838)) (fun _ hk => hk.1.2) (.int .i64 t839)) (fun _ hk => hk.1.2) (.int .i64 t840)) (fun _ hk => hk.1.2) (.int .i64 t841)) (fun _ hk => hk.1.2) (.slice Ao13 t842.length co13)) (fun _ hk => hk.2) (.slice Ao14 t845.length co14)) (fun _ hk => hk.2) (.slice Ao16 t848.length co16)) (fun _ hk => hk.2) (.slice Ao17 t851.length co17)) (fun _ h_ => h_.1)) (fun _ h_ => h_.1))))) (Kd.R_lt (by (with_reducible repeat (first | apply Kd.R_alloc | apply Kd.R_drewN | apply Kd.R_drew)); exact (Kd.R_mono (Kd.R_mono (Kd.R_far (p := ⟨gb855, 2, none⟩) (Kd.R_far (p := ⟨gb855, 1, none⟩) (Kd.R_far (p := ⟨gb855, 0, none⟩) (Kd.R_far (p := ⟨gb854, 4, none⟩) (Kd.R_far (p := ⟨gb854, 3, none⟩) (Kd.R_far (p := ⟨gb854, 2, none⟩) (Kd.R_far (p := ⟨gb854, 1, none⟩) (Kd.R_far (p := ⟨gb854, 0, none⟩) (Kd.R_types (Kd.R_types HO850.out BK854.out (by decide)) BK855.out (by decide)) (fun _ hk => hk.1.2) (.int .i64 t838)) (fun _ hk => hk.1.2) (.int .i64 t839)) (fun _ hk => hk.1.2) (.int .i64 t840)) (fun _ hk => hk.1.2) (.int .i64 t841)) (fun _ hk => hk.1.2) (.slice Ao13 t842.length co13)) (fun _ hk => hk.2) (.slice Ao14 t845.length co14)) (fun _ hk => hk.2) (.slice Ao16 t848.length co16)) (fun _ hk => hk.2) (.slice Ao17 t851.length co17)) (fun _ h_ => h_.1)) (fun _ h_ => h_.1))))) (Kd.R_lt (by (with_reducible repeat (first | apply Kd.R_alloc | apply Kd.R_drewN | apply Kd.R_drew)); exact (Kd.R_mono (Kd.R_mono (Kd.R_far (p := ⟨gb855, 2, none⟩) (Kd.R_far (p := ⟨gb855, 1, none⟩) (Kd.R_far (p := ⟨gb855, 0, none⟩) (Kd.R_far (p := ⟨gb854, 4, none⟩) (Kd.R_far (p := ⟨gb854, 3, none⟩) (Kd.R_far (p := ⟨gb854, 2, none⟩) (Kd.R_far (p := ⟨gb854, 1, none⟩) (Kd.R_far (p := ⟨gb854, 0, none⟩) (Kd.R_types (Kd.R_types HO853.out BK854.out (by decide)) BK855.out (by decide)) (fun _ hk => hk.1.2) (.int .i64 t838)) (fun _ hk => hk.1.2) (.int .i64 t839)) (fun _ hk => hk.1.2) (.int .i64 t840)) (fun _ hk => hk.1.2) (.int .i64 t841)) (fun _ hk => hk.1.2) (.slice Ao13 t842.length co13)) (fun _ hk => hk.2) (.slice Ao14 t845.length co14)) (fun _ hk => hk.2) (.slice Ao16 t848.length co16)) (fun _ hk => hk.2) (.slice Ao17 t851.length co17)) (fun _ h_ => h_.1)) (fun _ h_ => h_.1))))) (below_size (mB HB.out))); have n8_ := z0 (blk_below (g := gb854) (o := .cells #[.int .i64 t838, .int .i64 t839, .int .i64 t840, .int .i64 t841, .slice Ao13 t842.length co13] 32 (0, 0)) (by (with_reducible repeat (first | refine blk_drewN ?_ _ | refine blk_drew ?_ | refine blk_alloc ?_ _)); refine blk_far ?_ NB854_855.out _; (with_reducible repeat (first | refine blk_drewN ?_ _ | refine blk_drew ?_ | refine blk_alloc ?_ _)); refine blk_far ?_ NB854_855.out _; (with_reducible repeat (first | refine blk_drewN ?_ _ | refine blk_drew ?_ | refine blk_alloc ?_ _)); refine blk_far ?_ NB854_855.out _; (with_reducible repeat (first | refine blk_drewN ?_ _ | refine blk_drew ?_ | refine blk_alloc ?_ _)); refine blk_put (cs := #[.int .i64 t838, .int .i64 t839, .int .i64 t840, .int .i64 t841, .slice none 0 0]) ?_ 4 _ rfl; (with_reducible repeat (first | refine blk_drewN ?_ _ | refine blk_drew ?_ | refine blk_alloc ?_ _)); refine blk_put (cs := #[.int .i64 t838, .int .i64 t839, .int .i64 t840, .int .i64 0, .slice none 0 0]) ?_ 3 _ rfl; (with_reducible repeat (first | refine blk_drewN ?_ _ | refine blk_drew ?_ | refine blk_alloc ?_ _)); refine blk_put (cs := #[.int .i64 t838, .int .i64 t839, .int .i64 0, .int .i64 0, .slice none 0 0]) ?_ 2 _ rfl; (with_reducible repeat (first | refine blk_drewN ?_ _ | refine blk_drew ?_ | refine blk_alloc ?_ _)); refine blk_put (cs := #[.int .i64 t838, .int .i64 0, .int .i64 0, .int .i64 0, .slice none 0 0]) ?_ 1 _ rfl; (with_reducible repeat (first | refine blk_drewN ?_ _ | refine blk_drew ?_ | refine blk_alloc ?_ _)); refine blk_put (cs := #[.int .i64 0, .int .i64 0, .int .i64 0, .int .i64 0, .slice none 0 0]) ?_ 0 _ rfl; (with_reducible repeat (first | refine blk_drewN ?_ _ | refine blk_drew ?_ | refine blk_alloc ?_ _)); exact BK854.out) hb); have n9_ := z0 (blk_below (g := gb855) (o := .cells #[.slice Ao14 t845.length co14, .slice Ao16 t848.length co16, .slice Ao17 t851.length co17] 44 (0, 0)) (by (with_reducible repeat (first | refine blk_drewN ?_ _ | refine blk_drew ?_ | refine blk_alloc ?_ _)); refine blk_put (cs := #[.slice Ao14 t845.length co14, .slice Ao16 t848.length co16, .slice none 0 0]) ?_ 2 _ rfl; (with_reducible repeat (first | refine blk_drewN ?_ _ | refine blk_drew ?_ | refine blk_alloc ?_ _)); refine blk_put (cs := #[.slice Ao14 t845.length co14, .slice none 0 0, .slice none 0 0]) ?_ 1 _ rfl; (with_reducible repeat (first | refine blk_drewN ?_ _ | refine blk_drew ?_ | refine blk_alloc ?_ _)); refine blk_put (cs := #[.slice none 0 0, .slice none 0 0, .slice none 0 0]) ?_ 0 _ rfl; (with_reducible repeat (first | refine blk_drewN ?_ _ | refine blk_drew ?_ | refine blk_alloc ?_ _)); refine blk_far ?_ NB855_854.out _; (with_reducible repeat (first | refine blk_drewN ?_ _ | refine blk_drew ?_ | refine blk_alloc ?_ _)); refine blk_far ?_ NB855_854.out _; (with_reducible repeat (first | refine blk_drewN ?_ _ | refine blk_drew ?_ | refine blk_alloc ?_ _)); refine blk_far ?_ NB855_854.out _; (with_reducible repeat (first | refine blk_drewN ?_ _ | refine blk_drew ?_ | refine blk_alloc ?_ _)); refine blk_far ?_ NB855_854.out _; (with_reducible repeat (first | refine blk_drewN ?_ _ | refine blk_drew ?_ | refine blk_alloc ?_ _)); refine blk_far ?_ NB855_854.out _; (with_reducible repeat (first | refine blk_drewN ?_ _ | refine blk_drew ?_ | refine blk_alloc ?_ _)); exact BK855.out) hb); have n10_ := z0 (below_step (mB HB.out) hb); clear HO844; clear HO847; clear HO850; clear HO853; clear BK854; clear BK855; clear HB; have HO844 := n0_; have HO847 := n1_; have HO850 := n2_; have HO853 := n3_; have HO862 := n4_; have HO865 := n5_; have HO868 := n6_; have HO871 := n7_; have BK854 := n8_; have BK855 := n9_; have HB := n10_; clear n0_ n1_ n2_ n3_ n4_ n5_ n6_ n7_ n8_ n9_ n10_; (try clear hb); (try clear hb2); (try clear hk); (try clear hi); (try clear ho0); (try clear ho1); (try clear ho2); (try clear ho3)) | ((with_reducible refine gate_dst (N := 7) rfl ?_); (try (refine gate_guard (by rfl) ?_; dsimp only)); refine box_event ?hg (N := 7) ?hd (cs := #[.int .i64 0, .int .i64 0, .int .i64 0, .int .i64 0, .slice none 0 0]) (t := 32) ?hr ?_; (case hd => rfl); (case hg => rfl); (case hr => first | (go_simp; done) | (go_simp; rfl)); intro gb872 hg w19 hbox hb; have n0_ := z0 (Kd.N_below (Kd.N_elderB (mN HO844.out) gb872 (Nat.le_of_eq hg.symm)) hb); have n1_ := z0 (Kd.R_below (mR HO847.out) hb); have n2_ := z0 (Kd.R_below (mR HO850.out) hb); have n3_ := z0 (Kd.R_below (mR HO853.out) hb); have n4_ := z0 (Kd.N_below (Kd.N_elderB (mN HO862.out) gb872 (Nat.le_of_eq hg.symm)) hb); have n5_ := z0 (Kd.R_below (mR HO865.out) hb); have n6_ := z0 (Kd.R_below (mR HO868.out) hb); have n7_ := z0 (Kd.R_below (mR HO871.out) hb); have n8_ := z0 (blk_below (g := gb854) (o := .cells #[.int .i64 t838, .int .i64 t839, .int .i64 t840, .int .i64 t841, .slice Ao13 t842.length co13] 32 (0, 0)) (mK BK854.out) hb); have n9_ := z0 (blk_below (g := gb855) (o := .cells #[.slice Ao14 t845.length co14, .slice Ao16 t848.length co16, .slice Ao17 t851.length co17] 44 (0, 0)) (mK BK855.out) hb); have n10_ := z0 (below_step (mB HB.out) hb); have n11_ := z0 (hbox); have n12_ := z0 ((by rw [hg]; exact (below_size (mB HB.out)) : w.heap.size ≤ gb872)); have n13_ := z0 ((by rw [hg]; exact (below_size (mB HB.out)) : w.heap.size ≤ gb872)); have n14_ := z0 ((by rw [hg]; exact Nat.ne_of_lt (blk_lt (g := gb854) (o := .cells #[.int .i64 t838, .int .i64 t839, .int .i64 t840, .int .i64 t841, .slice Ao13 t842.length co13] 32 (0, 0)) (mK BK854.out)) : gb854 ≠ gb872)); have n15_ := z0 ((by rw [hg]; exact Nat.ne_of_gt (blk_lt (g := gb854) (o := .cells #[.int .i64 t838, .int .i64 t839, .int .i64 t840, .int .i64 t841, .slice Ao13 t842.length co13] 32 (0, 0)) (mK BK854.out)) : gb872 ≠ gb854)); have n16_ := z0 ((by rw [hg]; exact Nat.ne_of_lt (blk_lt (g := gb855) (o := .cells #[.slice Ao14 t845.length co14, .slice Ao16 t848.length co16, .slice Ao17 t851.length co17] 44 (0, 0)) (mK BK855.out)) : gb855 ≠ gb872)); have n17_ := z0 ((by rw [hg]; exact Nat.ne_of_gt (blk_lt (g := gb855) (o := .cells #[.slice Ao14 t845.length co14, .slice Ao16 t848.length co16, .slice Ao17 t851.length co17] 44 (0, 0)) (mK BK855.out)) : gb872 ≠ gb855)); clear HO844; clear HO847; clear HO850; clear HO853; clear HO862; clear HO865; clear HO868; clear HO871; clear BK854; clear BK855; clear HB; have HO844 := n0_; have HO847 := n1_; have HO850 := n2_; have HO853 := n3_; have HO862 := n4_; have HO865 := n5_; have HO868 := n6_; have HO871 := n7_; have BK854 := n8_; have BK855 := n9_; have HB := n10_; have BK872 := n11_; have GW872 := n12_; have GE872 := n13_; have NB854_872 := n14_; have NB872_854 := n15_; have NB855_872 := n16_; have NB872_855 := n17_; clear n0_ n1_ n2_ n3_ n4_ n5_ n6_ n7_ n8_ n9_ n10_ n11_ n12_ n13_ n14_ n15_ n16_ n17_; clear hb hbox hg) | ((with_reducible refine gate_dst (N := 8) rfl ?_); (try (refine gate_guard (by rfl) ?_; dsimp only)); refine box_event ?hg (N := 8) ?hd (cs := #[.slice none 0 0, .slice none 0 0, .slice none 0 0]) (t := 44) ?hr ?_; (case hd => rfl); (case hg => rfl); (case hr => first | (go_simp; done) | (go_simp; rfl)); intro gb873 hg w20 hbox hb; have n0_ := z0 (Kd.N_below (Kd.N_elderB (mN HO844.out) gb873 (Nat.le_of_eq hg.symm)) hb); have n1_ := z0 (Kd.R_below (mR HO847.out) hb); have n2_ := z0 (Kd.R_below (mR HO850.out) hb); have n3_ := z0 (Kd.R_below (mR HO853.out) hb); have n4_ := z0 (Kd.N_below (Kd.N_elderB (mN HO862.out) gb873 (Nat.le_of_eq hg.symm)) hb); have n5_ := z0 (Kd.R_below (mR HO865.out) hb); have n6_ := z0 (Kd.R_below (mR HO868.out) hb); have n7_ := z0 (Kd.R_below (mR HO871.out) hb); have n8_ := z0 (blk_below (g := gb854) (o := .cells #[.int .i64 t838, .int .i64 t839, .int .i64 t840, .int .i64 t841, .slice Ao13 t842.length co13] 32 (0, 0)) (mK BK854.out) hb); have n9_ := z0 (blk_below (g := gb855) (o := .cells #[.slice Ao14 t845.length co14, .slice Ao16 t848.length co16, .slice Ao17 t851.length co17] 44 (0, 0)) (mK BK855.out) hb); have n10_ := z0 (blk_below (g := gb872) (o := .cells #[.int .i64 0, .int .i64 0, .int .i64 0, .int .i64 0, .slice none 0 0] 32 (0, 0)) (mK BK872.out) hb); have n11_ := z0 (below_step (mB HB.out) hb); have n12_ := z0 (hbox); have n13_ := z0 ((by rw [hg]; exact (below_size (mB HB.out)) : w.heap.size ≤ gb873)); have n14_ := z0 ((by rw [hg]; exact (below_size (mB HB.out)) : w.heap.size ≤ gb873)); have n15_ := z0 ((by rw [hg]; exact Nat.ne_of_lt (blk_lt (g := gb854) (o := .cells #[.int .i64 t838, .int .i64 t839, .int .i64 t840, .int .i64 t841, .slice Ao13 t842.length co13] 32 (0, 0)) (mK BK854.out)) : gb854 ≠ gb873)); have n16_ := z0 ((by rw [hg]; exact Nat.ne_of_gt (blk_lt (g := gb854) (o := .cells #[.int .i64 t838, .int .i64 t839, .int .i64 t840, .int .i64 t841, .slice Ao13 t842.length co13] 32 (0, 0)) (mK BK854.out)) : gb873 ≠ gb854)); have n17_ := z0 ((by rw [hg]; exact Nat.ne_of_lt (blk_lt (g := gb855) (o := .cells #[.slice Ao14 t845.length co14, .slice Ao16 t848.length co16, .slice Ao17 t851.length co17] 44 (0, 0)) (mK BK855.out)) : gb855 ≠ gb873)); have n18_ := z0 ((by rw [hg]; exact Nat.ne_of_gt (blk_lt (g := gb855) (o := .cells #[.slice Ao14 t845.length co14, .slice Ao16 t848.length co16, .slice Ao17 t851.length co17] 44 (0, 0)) (mK BK855.out)) : gb873 ≠ gb855)); have n19_ := z0 ((by rw [hg]; exact Nat.ne_of_lt (blk_lt (g := gb872) (o := .cells #[.int .i64 0, .int .i64 0, .int .i64 0, .int .i64 0, .slice none 0 0] 32 (0, 0)) (mK BK872.out)) : gb872 ≠ gb873)); have n20_ := z0 ((by rw [hg]; exact Nat.ne_of_gt (blk_lt (g := gb872) (o := .cells #[.int .i64 0, .int .i64 0, .int .i64 0, .int .i64 0, .slice none 0 0] 32 (0, 0)) (mK BK872.out)) : gb873 ≠ gb872)); clear HO844; clear HO847; clear HO850; clear HO853; clear HO862; clear HO865; clear HO868; clear HO871; clear BK854; clear BK855; clear BK872; clear HB; have HO844 := n0_; have HO847 := n1_; have HO850 := n2_; have HO853 := n3_; have HO862 := n4_; have HO865 := n5_; have HO868 := n6_; have HO871 := n7_; have BK854 := n8_; have BK855 := n9_; have BK872 := n10_; have HB := n11_; have BK873 := n12_; have GW873 := n13_; have GE873 := n14_; have NB854_873 := n15_; have NB873_854 := n16_; have NB855_873 := n17_; have NB873_855 := n18_; have NB872_873 := n19_; have NB873_872 := n20_; clear n0_ n1_ n2_ n3_ n4_ n5_ n6_ n7_ n8_ n9_ n10_ n11_ n12_ n13_ n14_ n15_ n16_ n17_ n18_ n19_ n20_; clear hb hbox hg; have hnb21 := NB872_854.out; have hnc21 := NB854_872.out; have hnb22 := NB872_855.out; have hnc22 := NB855_872.out; have hnb23 := NB872_873.out; have hnc23 := NB873_872.out; obtain ⟨hcz24_0, hcz24_1, hcz24_2, hcz24_3, hcz24_4, hfz24_0, hfz24_1, hfz24_2, hfz24_3, hfz24_4⟩ := cel5 BK872.out; obtain ⟨Ao25, co25, eo25⟩ := Kd.N_slice HO862.out; subst eo25; obtain ⟨Ao26, co26, eo26⟩ := Kd.R_slice HO865.out; subst eo26; have hnb27 := NB873_854.out; have hnc27 := NB854_873.out; have hnb28 := NB873_855.out; have hnc28 := NB855_873.out; obtain ⟨hcz29_0, hcz29_1, hcz29_2, hfz29_0, hfz29_1, hfz29_2⟩ := cel3 BK873.out; obtain ⟨Ao30, co30, eo30⟩ := Kd.R_slice HO868.out; subst eo30; obtain ⟨Ao31, co31, eo31⟩ := Kd.R_slice HO871.out; subst eo31) | ((with_reducible refine gate_dst (N := 32) rfl ?_); (try (refine gate_guard (by rfl) ?_; dsimp only)); refine Kd.R_lit (Kd.int .i64) _ 3 ?hg (N := 32) ?hd (xs := ([3, 5, 7, 8, 9] : List Int)) (inner := [.int .i64 3, .int .i64 5, .int .i64 7, .int .i64 8, .int .i64 9]) (ok := fun _ => True) (okp := fun _ => True) ?hr ?hp (fun _ hk => hk) trivial (Below.refl _ _) (Nat.le_refl _) (by simp) ?_; (case hd => rfl); (case hg => rfl); (case hr => first | (go_simp; done) | (go_simp; rfl)); (case hp => exact (Reps.one (show Kd.M (Kd.int .i64) _ _ _ 3 [.int .i64 3] from rfl) (Reps.one (show Kd.M (Kd.int .i64) _ _ _ 5 [.int .i64 5] from rfl) (Reps.one (show Kd.M (Kd.int .i64) _ _ _ 7 [.int .i64 7] from rfl) (Reps.one (show Kd.M (Kd.int .i64) _ _ _ 8 [.int .i64 8] from rfl) (Reps.one (show Kd.M (Kd.int .i64) _ _ _ 9 [.int .i64 9] from rfl) (Reps.none _ _))))))); intro v875 w32 ho33 hb hg_ hnew_; clear hg_ hnew_; (first | rw [← Ny874.out] at ho33 | (simp only [Int.reduceToNat] at ho33; rw [← Ny874.out] at ho33)); have n0_ := z0 (Kd.N_elder' (by (with_reducible repeat (first | apply Kd.N_alloc | apply Kd.N_drewN | apply Kd.N_drew)); exact (Kd.N_mono (Kd.N_mono (Kd.N_far (p := ⟨gb873, 2, none⟩) (Kd.N_far (p := ⟨gb873, 1, none⟩) (Kd.N_far (p := ⟨gb873, 0, none⟩) (Kd.N_far (p := ⟨gb872, 4, none⟩) (Kd.N_far (p := ⟨gb872, 3, none⟩) (Kd.N_far (p := ⟨gb872, 2, none⟩) (Kd.N_far (p := ⟨gb872, 1, none⟩) (Kd.N_far (p := ⟨gb872, 0, none⟩) (Kd.N_mono (Kd.N_mono HO844.out (fun k_ hk => (⟨hk, hk.1.2⟩ : _ ∧ k_ ≠ gb872))) (fun k_ hk => (⟨hk, hk.1.2⟩ : _ ∧ k_ ≠ gb873))) (fun _ hk => hk.1.2) (.int .i64 t856)) (fun _ hk => hk.1.2) (.int .i64 t857)) (fun _ hk => hk.1.2) (.int .i64 t858)) (fun _ hk => hk.1.2) (.int .i64 t859)) (fun _ hk => hk.1.2) (.slice Ao25 t860.length co25)) (fun _ hk => hk.2) (.slice Ao26 t863.length co26)) (fun _ hk => hk.2) (.slice Ao30 t866.length co30)) (fun _ hk => hk.2) (.slice Ao31 t869.length co31)) (fun _ h_ => h_.1)) (fun _ h_ => h_.1))) (by first | exact Kd.R_base ho33 | exact Kd.R_base ho33) hb); have n1_ := z0 (Kd.R_elder' (by (with_reducible repeat (first | apply Kd.R_alloc | apply Kd.R_drewN | apply Kd.R_drew)); exact (Kd.R_mono (Kd.R_mono (Kd.R_far (p := ⟨gb873, 2, none⟩) (Kd.R_far (p := ⟨gb873, 1, none⟩) (Kd.R_far (p := ⟨gb873, 0, none⟩) (Kd.R_far (p := ⟨gb872, 4, none⟩) (Kd.R_far (p := ⟨gb872, 3, none⟩) (Kd.R_far (p := ⟨gb872, 2, none⟩) (Kd.R_far (p := ⟨gb872, 1, none⟩) (Kd.R_far (p := ⟨gb872, 0, none⟩) (Kd.R_types (Kd.R_types HO847.out BK872.out (by decide)) BK873.out (by decide)) (fun _ hk => hk.1.2) (.int .i64 t856)) (fun _ hk => hk.1.2) (.int .i64 t857)) (fun _ hk => hk.1.2) (.int .i64 t858)) (fun _ hk => hk.1.2) (.int .i64 t859)) (fun _ hk => hk.1.2) (.slice Ao25 t860.length co25)) (fun _ hk => hk.2) (.slice Ao26 t863.length co26)) (fun _ hk => hk.2) (.slice Ao30 t866.length co30)) (fun _ hk => hk.2) (.slice Ao31 t869.length co31)) (fun _ h_ => h_.1)) (fun _ h_ => h_.1))) (by first | exact Kd.R_base ho33 | exact Kd.R_base ho33) hb); have n2_ := z0 (Kd.R_elder' (by (with_reducible repeat (first | apply Kd.R_alloc | apply Kd.R_drewN | apply Kd.R_drew)); exact (Kd.R_mono (Kd.R_mono (Kd.R_far (p := ⟨gb873, 2, none⟩) (Kd.R_far (p := ⟨gb873, 1, none⟩) (Kd.R_far (p := ⟨gb873, 0, none⟩) (Kd.R_far (p := ⟨gb872, 4, none⟩) (Kd.R_far (p := ⟨gb872, 3, none⟩) (Kd.R_far (p := ⟨gb872, 2, none⟩) (Kd.R_far (p := ⟨gb872, 1, none⟩) (Kd.R_far (p := ⟨gb872, 0, none⟩) (Kd.R_types (Kd.R_types HO850.out BK872.out (by decide)) BK873.out (by decide)) (fun _ hk => hk.1.2) (.int .i64 t856)) (fun _ hk => hk.1.2) (.int .i64 t857)) (fun _ hk => hk.1.2) (.int .i64 t858)) (fun _ hk => hk.1.2) (.int .i64 t859)) (fun _ hk => hk.1.2) (.slice Ao25 t860.length co25)) (fun _ hk => hk.2) (.slice Ao26 t863.length co26)) (fun _ hk => hk.2) (.slice Ao30 t866.length co30)) (fun _ hk => hk.2) (.slice Ao31 t869.length co31)) (fun _ h_ => h_.1)) (fun _ h_ => h_.1))) (by first | exact Kd.R_base ho33 | exact Kd.R_base ho33) hb); have n3_ := z0 (Kd.R_elder' (by (with_reducible repeat (first | apply Kd.R_alloc | apply Kd.R_drewN | apply Kd.R_drew)); exact (Kd.R_mono (Kd.R_mono (Kd.R_far (p := ⟨gb873, 2, none⟩) (Kd.R_far (p := ⟨gb873, 1, none⟩) (Kd.R_far (p := ⟨gb873, 0, none⟩) (Kd.R_far (p := ⟨gb872, 4, none⟩) (Kd.R_far (p := ⟨gb872, 3, none⟩) (Kd.R_far (p := ⟨gb872, 2, none⟩) (Kd.R_far (p := ⟨gb872, 1, none⟩) (Kd.R_far (p := ⟨gb872, 0, none⟩) (Kd.R_types (Kd.R_types HO853.out BK872.out (by decide)) BK873.out (by decide)) (fun _ hk => hk.1.2) (.int .i64 t856)) (fun _ hk => hk.1.2) (.int .i64 t857)) (fun _ hk => hk.1.2) (.int .i64 t858)) (fun _ hk => hk.1.2) (.int .i64 t859)) (fun _ hk => hk.1.2) (.slice Ao25 t860.length co25)) (fun _ hk => hk.2) (.slice Ao26 t863.length co26)) (fun _ hk => hk.2) (.slice Ao30 t866.length co30)) (fun _ hk => hk.2) (.slice Ao31 t869.length co31)) (fun _ h_ => h_.1)) (fun _ h_ => h_.1))) (by first | exact Kd.R_base ho33 | exact Kd.R_base ho33) hb); have n4_ := z0 (Kd.N_elder' (by (with_reducible repeat (first | apply Kd.N_alloc | apply Kd.N_drewN | apply Kd.N_drew)); exact (Kd.N_mono (Kd.N_mono (Kd.N_far (p := ⟨gb873, 2, none⟩) (Kd.N_far (p := ⟨gb873, 1, none⟩) (Kd.N_far (p := ⟨gb873, 0, none⟩) (Kd.N_far (p := ⟨gb872, 4, none⟩) (Kd.N_far (p := ⟨gb872, 3, none⟩) (Kd.N_far (p := ⟨gb872, 2, none⟩) (Kd.N_far (p := ⟨gb872, 1, none⟩) (Kd.N_far (p := ⟨gb872, 0, none⟩) (Kd.N_mono (Kd.N_mono HO862.out (fun k_ hk => (⟨hk, hk.1.2⟩ : _ ∧ k_ ≠ gb872))) (fun k_ hk => (⟨hk, hk.1.2⟩ : _ ∧ k_ ≠ gb873))) (fun _ hk => hk.1.2) (.int .i64 t856)) (fun _ hk => hk.1.2) (.int .i64 t857)) (fun _ hk => hk.1.2) (.int .i64 t858)) (fun _ hk => hk.1.2) (.int .i64 t859)) (fun _ hk => hk.1.2) (.slice Ao25 t860.length co25)) (fun _ hk => hk.2) (.slice Ao26 t863.length co26)) (fun _ hk => hk.2) (.slice Ao30 t866.length co30)) (fun _ hk => hk.2) (.slice Ao31 t869.length co31)) (fun _ h_ => h_.1)) (fun _ h_ => h_.1))) (by first | exact Kd.R_base ho33 | exact Kd.R_base ho33) hb); have n5_ := z0 (Kd.R_elder' (by (with_reducible repeat (first | apply Kd.R_alloc | apply Kd.R_drewN | apply Kd.R_drew)); exact (Kd.R_mono (Kd.R_mono (Kd.R_far (p := ⟨gb873, 2, none⟩) (Kd.R_far (p := ⟨gb873, 1, none⟩) (Kd.R_far (p := ⟨gb873, 0, none⟩) (Kd.R_far (p := ⟨gb872, 4, none⟩) (Kd.R_far (p := ⟨gb872, 3, none⟩) (Kd.R_far (p := ⟨gb872, 2, none⟩) (Kd.R_far (p := ⟨gb872, 1, none⟩) (Kd.R_far (p := ⟨gb872, 0, none⟩) (Kd.R_types (Kd.R_types HO865.out BK872.out (by decide)) BK873.out (by decide)) (fun _ hk => hk.1.2) (.int .i64 t856)) (fun _ hk => hk.1.2) (.int .i64 t857)) (fun _ hk => hk.1.2) (.int .i64 t858)) (fun _ hk => hk.1.2) (.int .i64 t859)) (fun _ hk => hk.1.2) (.slice Ao25 t860.length co25)) (fun _ hk => hk.2) (.slice Ao26 t863.length co26)) (fun _ hk => hk.2) (.slice Ao30 t866.length co30)) (fun _ hk => hk.2) (.slice Ao31 t869.length co31)) (fun _ h_ => h_.1)) (fun _ h_ => h_.1))) (by first | exact Kd.R_base ho33 | exact Kd.R_base ho33) hb); have n6_ := z0 (Kd.R_elder' (by (with_reducible repeat (first | apply Kd.R_alloc | apply Kd.R_drewN | apply Kd.R_drew)); exact (Kd.R_mono (Kd.R_mono (Kd.R_far (p := ⟨gb873, 2, none⟩) (Kd.R_far (p := ⟨gb873, 1, none⟩) (Kd.R_far (p := ⟨gb873, 0, none⟩) (Kd.R_far (p := ⟨gb872, 4, none⟩) (Kd.R_far (p := ⟨gb872, 3, none⟩) (Kd.R_far (p := ⟨gb872, 2, none⟩) (Kd.R_far (p := ⟨gb872, 1, none⟩) (Kd.R_far (p := ⟨gb872, 0, none⟩) (Kd.R_types (Kd.R_types HO868.out BK872.out (by decide)) BK873.out (by decide)) (fun _ hk => hk.1.2) (.int .i64 t856)) (fun _ hk => hk.1.2) (.int .i64 t857)) (fun _ hk => hk.1.2) (.int .i64 t858)) (fun _ hk => hk.1.2) (.int .i64 t859)) (fun _ hk => hk.1.2) (.slice Ao25 t860.length co25)) (fun _ hk => hk.2) (.slice Ao26 t863.length co26)) (fun _ hk => hk.2) (.slice Ao30 t866.length co30)) (fun _ hk => hk.2) (.slice Ao31 t869.length co31)) (fun _ h_ => h_.1)) (fun _ h_ => h_.1))) (by first | exact Kd.R_base ho33 | exact Kd.R_base ho33) hb); have n7_ := z0 (Kd.R_elder' (by (with_reducible repeat (first | apply Kd.R_alloc | apply Kd.R_drewN | apply Kd.R_drew)); exact (Kd.R_mono (Kd.R_mono (Kd.R_far (p := ⟨gb873, 2, none⟩) (Kd.R_far (p := ⟨gb873, 1, none⟩) (Kd.R_far (p := ⟨gb873, 0, none⟩) (Kd.R_far (p := ⟨gb872, 4, none⟩) (Kd.R_far (p := ⟨gb872, 3, none⟩) (Kd.R_far (p := ⟨gb872, 2, none⟩) (Kd.R_far (p := ⟨gb872, 1, none⟩) (Kd.R_far (p := ⟨gb872, 0, none⟩) (Kd.R_types (Kd.R_types HO871.out BK872.out (by decide)) BK873.out (by decide)) (fun _ hk => hk.1.2) (.int .i64 t856)) (fun _ hk => hk.1.2) (.int .i64 t857)) (fun _ hk => hk.1.2) (.int .i64 t858)) (fun _ hk => hk.1.2) (.int .i64 t859)) (fun _ hk => hk.1.2) (.slice Ao25 t860.length co25)) (fun _ hk => hk.2) (.slice Ao26 t863.length co26)) (fun _ hk => hk.2) (.slice Ao30 t866.length co30)) (fun _ hk => hk.2) (.slice Ao31 t869.length co31)) (fun _ h_ => h_.1)) (fun _ h_ => h_.1))) (by first | exact Kd.R_base ho33 | exact Kd.R_base ho33) hb); have n8_ := z0 (Kd.R_lower (Kd.R_new' (Kd.R_new' (Kd.R_new' (Kd.R_new' (Kd.R_new' (Kd.R_new' ho33 (Kd.R_lt (by (with_reducible repeat (first | apply Kd.R_alloc | apply Kd.R_drewN | apply Kd.R_drew)); exact (Kd.R_mono (Kd.R_mono (Kd.R_far (p := ⟨gb873, 2, none⟩) (Kd.R_far (p := ⟨gb873, 1, none⟩) (Kd.R_far (p := ⟨gb873, 0, none⟩) (Kd.R_far (p := ⟨gb872, 4, none⟩) (Kd.R_far (p := ⟨gb872, 3, none⟩) (Kd.R_far (p := ⟨gb872, 2, none⟩) (Kd.R_far (p := ⟨gb872, 1, none⟩) (Kd.R_far (p := ⟨gb872, 0, none⟩) (Kd.R_types (Kd.R_types HO847.out BK872.out (by decide)) BK873.out (by decide)) (fun _ hk => hk.1.2) (.int .i64 t856)) (fun _ hk => hk.1.2) (.int .i64 t857)) (fun _ hk => hk.1.2) (.int .i64 t858)) (fun _ hk => hk.1.2) (.int .i64 t859)) (fun _ hk => hk.1.2) (.slice Ao25 t860.length co25)) (fun _ hk => hk.2) (.slice Ao26 t863.length co26)) (fun _ hk => hk.2) (.slice Ao30 t866.length co30)) (fun _ hk => hk.2) (.slice Ao31 t869.length co31)) (fun _ h_ => h_.1)) (fun _ h_ => h_.1))))) (Kd.R_lt (by (with_reducible repeat (first | apply Kd.R_alloc | apply Kd.R_drewN | apply Kd.R_drew)); exact (Kd.R_mono (Kd.R_mono (Kd.R_far (p := ⟨gb873, 2, none⟩) (Kd.R_far (p := ⟨gb873, 1, none⟩) (Kd.R_far (p := ⟨gb873, 0, none⟩) (Kd.R_far (p := ⟨gb872, 4, none⟩) (Kd.R_far (p := ⟨gb872, 3, none⟩) (Kd.R_far (p := ⟨gb872, 2, none⟩) (Kd.R_far (p := ⟨gb872, 1, none⟩) (Kd.R_far (p := ⟨gb872, 0, none⟩) (Kd.R_types (Kd.R_types HO850.out BK872.out (by decide)) BK873.out (by decide)) (fun _ hk => hk.1.2) (.int .i64 t856)) (fun _ hk => hk.1.2) (.int .i64 t857)) (fun _ hk => hk.1.2) (.int .i64 t858)) (fun _ hk => hk.1.2) (.int .i64 t859)) (fun _ hk => hk.1.2) (.slice Ao25 t860.length co25)) (fun _ hk => hk.2) (.slice Ao26 t863.length co26)) (fun _ hk => hk.2) (.slice Ao30 t866.length co30)) (fun _ hk => hk.2) (.slice Ao31 t869.length co31)) (fun _ h_ => h_.1)) (fun _ h_ => h_.1))))) (Kd.R_lt (by (with_reducible repeat (first | apply Kd.R_alloc | apply Kd.R_drewN | apply Kd.R_drew)); exact (Kd.R_mono (Kd.R_mono (Kd.R_far (p := ⟨gb873, 2, none⟩) (Kd.R_far (p := ⟨gb873, 1, none⟩) (Kd.R_far (p := ⟨gb873, 0, none⟩) (Kd.R_far (p := ⟨gb872, 4, none⟩) (Kd.R_far (p := ⟨gb872, 3, none⟩) (Kd.R_far (p := ⟨gb872, 2, none⟩) (Kd.R_far (p := ⟨gb872, 1, none⟩) (Kd.R_far (p := ⟨gb872, 0, none⟩) (Kd.R_types (Kd.R_types HO853.out BK872.out (by decide)) BK873.out (by decide)) (fun _ hk => hk.1.2) (.int .i64 t856)) (fun _ hk => hk.1.2) (.int .i64 t857)) (fun _ hk => hk.1.2) (.int .i64 t858)) (fun _ hk => hk.1.2) (.int .i64 t859)) (fun _ hk => hk.1.2) (.slice Ao25 t860.length co25)) (fun _ hk => hk.2) (.slice Ao26 t863.length co26)) (fun _ hk => hk.2) (.slice Ao30 t866.length co30)) (fun _ hk => hk.2) (.slice Ao31 t869.length co31)) (fun _ h_ => h_.1)) (fun _ h_ => h_.1))))) (Kd.R_lt (by (with_reducible repeat (first | apply Kd.R_alloc | apply Kd.R_drewN | apply Kd.R_drew)); exact (Kd.R_mono (Kd.R_mono (Kd.R_far (p := ⟨gb873, 2, none⟩) (Kd.R_far (p := ⟨gb873, 1, none⟩) (Kd.R_far (p := ⟨gb873, 0, none⟩) (Kd.R_far (p := ⟨gb872, 4, none⟩) (Kd.R_far (p := ⟨gb872, 3, none⟩) (Kd.R_far (p := ⟨gb872, 2, none⟩) (Kd.R_far (p := ⟨gb872, 1, none⟩) (Kd.R_far (p := ⟨gb872, 0, none⟩) (Kd.R_types (Kd.R_types HO865.out BK872.out (by decide)) BK873.out (by decide)) (fun _ hk => hk.1.2) (.int .i64 t856)) (fun _ hk => hk.1.2) (.int .i64 t857)) (fun _ hk => hk.1.2) (.int .i64 t858)) (fun _ hk => hk.1.2) (.int .i64 t859)) (fun _ hk => hk.1.2) (.slice Ao25 t860.length co25)) (fun _ hk => hk.2) (.slice Ao26 t863.length co26)) (fun _ hk => hk.2) (.slice Ao30 t866.length co30)) (fun _ hk => hk.2) (.slice Ao31 t869.length co31)) (fun _ h_ => h_.1)) (fun _ h_ => h_.1))))) (Kd.R_lt (by (with_reducible repeat (first | apply Kd.R_alloc | apply Kd.R_drewN | apply Kd.R_drew)); exact (Kd.R_mono (Kd.R_mono (Kd.R_far (p := ⟨gb873, 2, none⟩) (Kd.R_far (p := ⟨gb873, 1, none⟩) (Kd.R_far (p := ⟨gb873, 0, none⟩) (Kd.R_far (p := ⟨gb872, 4, none⟩) (Kd.R_far (p := ⟨gb872, 3, none⟩) (Kd.R_far (p := ⟨gb872, 2, none⟩) (Kd.R_far (p := ⟨gb872, 1, none⟩) (Kd.R_far (p := ⟨gb872, 0, none⟩) (Kd.R_types (Kd.R_types HO868.out BK872.out (by decide)) BK873.out (by decide)) (fun _ hk => hk.1.2) (.int .i64 t856)) (fun _ hk => hk.1.2) (.int .i64 t857)) (fun _ hk => hk.1.2) (.int .i64 t858)) (fun _ hk => hk.1.2) (.int .i64 t859)) (fun _ hk => hk.1.2) (.slice Ao25 t860.length co25)) (fun _ hk => hk.2) (.slice Ao26 t863.length co26)) (fun _ hk => hk.2) (.slice Ao30 t866.length co30)) (fun _ hk => hk.2) (.slice Ao31 t869.length co31)) (fun _ h_ => h_.1)) (fun _ h_ => h_.1))))) (Kd.R_lt (by (with_reducible repeat (first | apply Kd.R_alloc | apply Kd.R_drewN | apply Kd.R_drew)); exact (Kd.R_mono (Kd.R_mono (Kd.R_far (p := ⟨gb873, 2, none⟩) (Kd.R_far (p := ⟨gb873, 1, none⟩) (Kd.R_far (p := ⟨gb873, 0, none⟩) (Kd.R_far (p := ⟨gb872, 4, none⟩) (Kd.R_far (p := ⟨gb872, 3, none⟩) (Kd.R_far (p := ⟨gb872, 2, none⟩) (Kd.R_far (p := ⟨gb872, 1, none⟩) (Kd.R_far (p := ⟨gb872, 0, none⟩) (Kd.R_types (Kd.R_types HO871.out BK872.out (by decide)) BK873.out (by decide)) (fun _ hk => hk.1.2) (.int .i64 t856)) (fun _ hk => hk.1.2) (.int .i64 t857)) (fun _ hk => hk.1.2) (.int .i64 t858)) (fun _ hk => hk.1.2) (.int .i64 t859)) (fun _ hk => hk.1.2) (.slice Ao25 t860.length co25)) (fun _ hk => hk.2) (.slice Ao26 t863.length co26)) (fun _ hk => hk.2) (.slice Ao30 t866.length co30)) (fun _ hk => hk.2) (.slice Ao31 t869.length co31)) (fun _ h_ => h_.1)) (fun _ h_ => h_.1))))) (below_size (mB HB.out))); have n9_ := z0 (blk_below (g := gb854) (o := .cells #[.int .i64 t838, .int .i64 t839, .int .i64 t840, .int .i64 t841, .slice Ao13 t842.length co13] 32 (0, 0)) (by (with_reducible repeat (first | refine blk_drewN ?_ _ | refine blk_drew ?_ | refine blk_alloc ?_ _)); refine blk_far ?_ NB854_873.out _; (with_reducible repeat (first | refine blk_drewN ?_ _ | refine blk_drew ?_ | refine blk_alloc ?_ _)); refine blk_far ?_ NB854_873.out _; (with_reducible repeat (first | refine blk_drewN ?_ _ | refine blk_drew ?_ | refine blk_alloc ?_ _)); refine blk_far ?_ NB854_873.out _; (with_reducible repeat (first | refine blk_drewN ?_ _ | refine blk_drew ?_ | refine blk_alloc ?_ _)); refine blk_far ?_ NB854_872.out _; (with_reducible repeat (first | refine blk_drewN ?_ _ | refine blk_drew ?_ | refine blk_alloc ?_ _)); refine blk_far ?_ NB854_872.out _; (with_reducible repeat (first | refine blk_drewN ?_ _ | refine blk_drew ?_ | refine blk_alloc ?_ _)); refine blk_far ?_ NB854_872.out _; (with_reducible repeat (first | refine blk_drewN ?_ _ | refine blk_drew ?_ | refine blk_alloc ?_ _)); refine blk_far ?_ NB854_872.out _; (with_reducible repeat (first | refine blk_drewN ?_ _ | refine blk_drew ?_ | refine blk_alloc ?_ _)); refine blk_far ?_ NB854_872.out _; (with_reducible repeat (first | refine blk_drewN ?_ _ | refine blk_drew ?_ | refine blk_alloc ?_ _)); exact BK854.out) hb); have n10_ := z0 (blk_below (g := gb855) (o := .cells #[.slice Ao14 t845.length co14, .slice Ao16 t848.length co16, .slice Ao17 t851.length co17] 44 (0, 0)) (by (with_reducible repeat (first | refine blk_drewN ?_ _ | refine blk_drew ?_ | refine blk_alloc ?_ _)); refine blk_far ?_ NB855_873.out _; (with_reducible repeat (first | refine blk_drewN ?_ _ | refine blk_drew ?_ | refine blk_alloc ?_ _)); refine blk_far ?_ NB855_873.out _; (with_reducible repeat (first | refine blk_drewN ?_ _ | refine blk_drew ?_ | refine blk_alloc ?_ _)); refine blk_far ?_ NB855_873.out _; (with_reducible repeat (first | refine blk_drewN ?_ _ | refine blk_drew ?_ | refine blk_alloc ?_ _)); refine blk_far ?_ NB855_872.out _; (with_reducible repeat (first | refine blk_drewN ?_ _ | refine blk_drew ?_ | refine blk_alloc ?_ _)); refine blk_far ?_ NB855_872.out _; (with_reducible repeat (first | refine blk_drewN ?_ _ | refine blk_drew ?_ | refine blk_alloc ?_ _)); refine blk_far ?_ NB855_872.out _; (with_reducible repeat (first | refine blk_drewN ?_ _ | refine blk_drew ?_ | refine blk_alloc ?_ _)); refine blk_far ?_ NB855_872.out _; (with_reducible repeat (first | refine blk_drewN ?_ _ | refine blk_drew ?_ | refine blk_alloc ?_ _)); refine blk_far ?_ NB855_872.out _; (with_reducible repeat (first | refine blk_drewN ?_ _ | refine blk_drew ?_ | refine blk_alloc ?_ _)); exact BK855.out) hb); have n11_ := z0 (blk_below (g := gb872) (o := .cells #[.int .i64 t856, .int .i64 t857, .int .i64 t858, .int .i64 t859, .slice Ao25 t860.length co25] 32 (0, 0)) (by (with_reducible repeat (first | refine blk_drewN ?_ _ | refine blk_drew ?_ | refine blk_alloc ?_ _)); refine blk_far ?_ NB872_873.out _; (with_reducible repeat (first | refine blk_drewN ?_ _ | refine blk_drew ?_ | refine blk_alloc ?_ _)); refine blk_far ?_ NB872_873.out _; (with_reducible repeat (first | refine blk_drewN ?_ _ | refine blk_drew ?_ | refine blk_alloc ?_ _)); refine blk_far ?_ NB872_873.out _; (with_reducible repeat (first | refine blk_drewN ?_ _ | refine blk_drew ?_ | refine blk_alloc ?_ _)); refine blk_put (cs := #[.int .i64 t856, .int .i64 t857, .int .i64 t858, .int .i64 t859, .slice none 0 0]) ?_ 4 _ rfl; (with_reducible repeat (first | refine blk_drewN ?_ _ | refine blk_drew ?_ | refine blk_alloc ?_ _)); refine blk_put (cs := #[.int .i64 t856, .int .i64 t857, .int .i64 t858, .int .i64 0, .slice none 0 0]) ?_ 3 _ rfl; (with_reducible repeat (first | refine blk_drewN ?_ _ | refine blk_drew ?_ | refine blk_alloc ?_ _)); refine blk_put (cs := #[.int .i64 t856, .int .i64 t857, .int .i64 0, .int .i64 0, .slice none 0 0]) ?_ 2 _ rfl; (with_reducible repeat (first | refine blk_drewN ?_ _ | refine blk_drew ?_ | refine blk_alloc ?_ _)); refine blk_put (cs := #[.int .i64 t856, .int .i64 0, .int .i64 0, .int .i64 0, .slice none 0 0]) ?_ 1 _ rfl; (with_reducible repeat (first | refine blk_drewN ?_ _ | refine blk_drew ?_ | refine blk_alloc ?_ _)); refine blk_put (cs := #[.int .i64 0, .int .i64 0, .int .i64 0, .int .i64 0, .slice none 0 0]) ?_ 0 _ rfl; (with_reducible repeat (first | refine blk_drewN ?_ _ | refine blk_drew ?_ | refine blk_alloc ?_ _)); exact BK872.out) hb); have n12_ := z0 (blk_below (g := gb873) (o := .cells #[.slice Ao26 t863.length co26, .slice Ao30 t866.length co30, .slice Ao31 t869.length co31] 44 (0, 0)) (by (with_reducible repeat (first | refine blk_drewN ?_ _ | refine blk_drew ?_ | refine blk_alloc ?_ _)); refine blk_put (cs := #[.slice Ao26 t863.length co26, .slice Ao30 t866.length co30, .slice none 0 0]) ?_ 2 _ rfl; (with_reducible repeat (first | refine blk_drewN ?_ _ | refine blk_drew ?_ | refine blk_alloc ?_ _)); refine blk_put (cs := #[.slice Ao26 t863.length co26, .slice none 0 0, .slice none 0 0]) ?_ 1 _ rfl; (with_reducible repeat (first | refine blk_drewN ?_ _ | refine blk_drew ?_ | refine blk_alloc ?_ _)); refine blk_put (cs := #[.slice none 0 0, .slice none 0 0, .slice none 0 0]) ?_ 0 _ rfl; (with_reducible repeat (first | refine blk_drewN ?_ _ | refine blk_drew ?_ | refine blk_alloc ?_ _)); refine blk_far ?_ NB873_872.out _; (with_reducible repeat (first | refine blk_drewN ?_ _ | refine blk_drew ?_ | refine blk_alloc ?_ _)); refine blk_far ?_ NB873_872.out _; (with_reducible repeat (first | refine blk_drewN ?_ _ | refine blk_drew ?_ | refine blk_alloc ?_ _)); refine blk_far ?_ NB873_872.out _; (with_reducible repeat (first | refine blk_drewN ?_ _ | refine blk_drew ?_ | refine blk_alloc ?_ _)); refine blk_far ?_ NB873_872.out _; (with_reducible repeat (first | refine blk_drewN ?_ _ | refine blk_drew ?_ | refine blk_alloc ?_ _)); refine blk_far ?_ NB873_872.out _; (with_reducible repeat (first | refine blk_drewN ?_ _ | refine blk_drew ?_ | refine blk_alloc ?_ _)); exact BK873.out) hb); have n13_ := z0 (below_step (mB HB.out) hb); clear HO844; clear HO847; clear HO850; clear HO853; clear HO862; clear HO865; clear HO868; clear HO871; clear BK854; clear BK855; clear BK872; clear BK873; clear HB; have HO844 := n0_; have HO847 := n1_; have HO850 := n2_; have HO853 := n3_; have HO862 := n4_; have HO865 := n5_; have HO868 := n6_; have HO871 := n7_; have HO876 := n8_; have BK854 := n9_; have BK855 := n10_; have BK872 := n11_; have BK873 := n12_; have HB := n13_; clear n0_ n1_ n2_ n3_ n4_ n5_ n6_ n7_ n8_ n9_ n10_ n11_ n12_ n13_; clear hb ho33; obtain ⟨Ao34, co34, eo34⟩ := Kd.R_slice HO876.out; subst eo34))
    go_loopg [34] kj2 (fun kq v34 w' => ∃ (x34_2 : Int), v34 = .int .i64 x34_2 ∧ Aside0 (laws_FnExprSwap.l0 kq y874 (y874.length : Int) x34_2 t838 t839 t840 t841 t842 t845 t848 t851 t856 t857 t858 t859 t860 = some r) ∧ Aside0 (kq ≤ kj2) ∧ Aside0 (Kd.R (Kd.int .i64) 3 w' w.heap.size (fun k_ => some k_ ≠ ((.slice Ao14 t845.length co14) : Value).ownBlock ∧ some k_ ≠ ((.slice Ao16 t848.length co16) : Value).ownBlock ∧ some k_ ≠ ((.slice Ao17 t851.length co17) : Value).ownBlock ∧ some k_ ≠ ((.slice Ao26 t863.length co26) : Value).ownBlock ∧ some k_ ≠ ((.slice Ao30 t866.length co30) : Value).ownBlock ∧ some k_ ≠ ((.slice Ao31 t869.length co31) : Value).ownBlock) (.slice Ao34 y874.length co34) y874) ∧ Aside0 (Kd.N k32 32 w' w.heap.size (fun k_ => some k_ ≠ ((.slice Ao34 y874.length co34) : Value).ownBlock ∧ some k_ ≠ ((.slice Ao14 t845.length co14) : Value).ownBlock ∧ some k_ ≠ ((.slice Ao16 t848.length co16) : Value).ownBlock ∧ some k_ ≠ ((.slice Ao17 t851.length co17) : Value).ownBlock ∧ some k_ ≠ ((.slice Ao25 t860.length co25) : Value).ownBlock ∧ some k_ ≠ ((.slice Ao26 t863.length co26) : Value).ownBlock ∧ some k_ ≠ ((.slice Ao30 t866.length co30) : Value).ownBlock ∧ some k_ ≠ ((.slice Ao31 t869.length co31) : Value).ownBlock ∧ k_ ≠ gb854 ∧ k_ ≠ gb855 ∧ k_ ≠ gb872 ∧ k_ ≠ gb873) (.slice Ao13 t842.length co13) t842) ∧ Aside0 (Kd.R (Kd.int .i64) 3 w' w.heap.size (fun k_ => some k_ ≠ ((.slice Ao34 y874.length co34) : Value).ownBlock ∧ some k_ ≠ ((.slice Ao16 t848.length co16) : Value).ownBlock ∧ some k_ ≠ ((.slice Ao17 t851.length co17) : Value).ownBlock ∧ some k_ ≠ ((.slice Ao26 t863.length co26) : Value).ownBlock ∧ some k_ ≠ ((.slice Ao30 t866.length co30) : Value).ownBlock ∧ some k_ ≠ ((.slice Ao31 t869.length co31) : Value).ownBlock) (.slice Ao14 t845.length co14) t845) ∧ Aside0 (Kd.R (Kd.int .i64) 3 w' w.heap.size (fun k_ => some k_ ≠ ((.slice Ao34 y874.length co34) : Value).ownBlock ∧ some k_ ≠ ((.slice Ao14 t845.length co14) : Value).ownBlock ∧ some k_ ≠ ((.slice Ao17 t851.length co17) : Value).ownBlock ∧ some k_ ≠ ((.slice Ao26 t863.length co26) : Value).ownBlock ∧ some k_ ≠ ((.slice Ao30 t866.length co30) : Value).ownBlock ∧ some k_ ≠ ((.slice Ao31 t869.length co31) : Value).ownBlock) (.slice Ao16 t848.length co16) t848) ∧ Aside0 (Kd.R (Kd.int .i64) 3 w' w.heap.size (fun k_ => some k_ ≠ ((.slice Ao34 y874.length co34) : Value).ownBlock ∧ some k_ ≠ ((.slice Ao14 t845.length co14) : Value).ownBlock ∧ some k_ ≠ ((.slice Ao16 t848.length co16) : Value).ownBlock ∧ some k_ ≠ ((.slice Ao26 t863.length co26) : Value).ownBlock ∧ some k_ ≠ ((.slice Ao30 t866.length co30) : Value).ownBlock ∧ some k_ ≠ ((.slice Ao31 t869.length co31) : Value).ownBlock) (.slice Ao17 t851.length co17) t851) ∧ Aside0 (Kd.N k32 32 w' w.heap.size (fun k_ => some k_ ≠ ((.slice Ao34 y874.length co34) : Value).ownBlock ∧ some k_ ≠ ((.slice Ao13 t842.length co13) : Value).ownBlock ∧ some k_ ≠ ((.slice Ao14 t845.length co14) : Value).ownBlock ∧ some k_ ≠ ((.slice Ao16 t848.length co16) : Value).ownBlock ∧ some k_ ≠ ((.slice Ao17 t851.length co17) : Value).ownBlock ∧ some k_ ≠ ((.slice Ao26 t863.length co26) : Value).ownBlock ∧ some k_ ≠ ((.slice Ao30 t866.length co30) : Value).ownBlock ∧ some k_ ≠ ((.slice Ao31 t869.length co31) : Value).ownBlock ∧ k_ ≠ gb854 ∧ k_ ≠ gb855 ∧ k_ ≠ gb872 ∧ k_ ≠ gb873) (.slice Ao25 t860.length co25) t860) ∧ Aside0 (Kd.R (Kd.int .i64) 3 w' w.heap.size (fun k_ => some k_ ≠ ((.slice Ao34 y874.length co34) : Value).ownBlock ∧ some k_ ≠ ((.slice Ao14 t845.length co14) : Value).ownBlock ∧ some k_ ≠ ((.slice Ao16 t848.length co16) : Value).ownBlock ∧ some k_ ≠ ((.slice Ao17 t851.length co17) : Value).ownBlock ∧ some k_ ≠ ((.slice Ao30 t866.length co30) : Value).ownBlock ∧ some k_ ≠ ((.slice Ao31 t869.length co31) : Value).ownBlock) (.slice Ao26 t863.length co26) t863) ∧ Aside0 (Kd.R (Kd.int .i64) 3 w' w.heap.size (fun k_ => some k_ ≠ ((.slice Ao34 y874.length co34) : Value).ownBlock ∧ some k_ ≠ ((.slice Ao14 t845.length co14) : Value).ownBlock ∧ some k_ ≠ ((.slice Ao16 t848.length co16) : Value).ownBlock ∧ some k_ ≠ ((.slice Ao17 t851.length co17) : Value).ownBlock ∧ some k_ ≠ ((.slice Ao26 t863.length co26) : Value).ownBlock ∧ some k_ ≠ ((.slice Ao31 t869.length co31) : Value).ownBlock) (.slice Ao30 t866.length co30) t866) ∧ Aside0 (Kd.R (Kd.int .i64) 3 w' w.heap.size (fun k_ => some k_ ≠ ((.slice Ao34 y874.length co34) : Value).ownBlock ∧ some k_ ≠ ((.slice Ao14 t845.length co14) : Value).ownBlock ∧ some k_ ≠ ((.slice Ao16 t848.length co16) : Value).ownBlock ∧ some k_ ≠ ((.slice Ao17 t851.length co17) : Value).ownBlock ∧ some k_ ≠ ((.slice Ao26 t863.length co26) : Value).ownBlock ∧ some k_ ≠ ((.slice Ao30 t866.length co30) : Value).ownBlock) (.slice Ao31 t869.length co31) t869) ∧ Aside0 (w'.heap[gb854]? = some (.cells #[.int .i64 t838, .int .i64 t839, .int .i64 t840, .int .i64 t841, (.slice Ao13 t842.length co13)] 32 (0, 0))) ∧ Aside0 (w'.heap[gb855]? = some (.cells #[(.slice Ao14 t845.length co14), (.slice Ao16 t848.length co16), (.slice Ao17 t851.length co17)] 44 (0, 0))) ∧ Aside0 (w'.heap[gb872]? = some (.cells #[.int .i64 t856, .int .i64 t857, .int .i64 t858, .int .i64 t859, (.slice Ao25 t860.length co25)] 32 (0, 0))) ∧ Aside0 (w'.heap[gb873]? = some (.cells #[(.slice Ao26 t863.length co26), (.slice Ao30 t866.length co30), (.slice Ao31 t869.length co31)] 44 (0, 0))) ∧ Aside0 (Below w.heap.size w w'))
    case atStart => exact ⟨(0), rfy, H', ⟨Nat.le_refl _⟩, ⟨by (with_reducible repeat (first | apply Kd.R_alloc | apply Kd.R_drewN | apply Kd.R_drew)); exact Kd.R_mono HO876.out (fun _ hk => ⟨hk.1.1.1.1.1.2, ⟨hk.1.1.1.1.2, ⟨hk.1.1.1.2, ⟨hk.1.1.2, ⟨hk.1.2, hk.2⟩⟩⟩⟩⟩)⟩, ⟨by (with_reducible repeat (first | apply Kd.N_alloc | apply Kd.N_drewN | apply Kd.N_drew)); exact Kd.N_mono HO844.out (fun _ hk => ⟨hk.2, ⟨hk.1.1.1.1.1.1.1.1.1.1, ⟨hk.1.1.1.1.1.1.1.1.1.2.1, ⟨hk.1.1.1.1.1.1.1.1.1.2.2, ⟨hk.1.1.1.1.1.1.2, ⟨hk.1.1.1.1.1.2, ⟨hk.1.1.1.1.2, ⟨hk.1.1.1.2, ⟨hk.1.1.1.1.1.1.1.1.2, ⟨hk.1.1.1.1.1.1.1.2, ⟨hk.1.1.2, hk.1.2⟩⟩⟩⟩⟩⟩⟩⟩⟩⟩⟩)⟩, ⟨by (with_reducible repeat (first | apply Kd.R_alloc | apply Kd.R_drewN | apply Kd.R_drew)); exact Kd.R_mono HO847.out (fun _ hk => ⟨hk.2, ⟨hk.1.1.1.1.1, ⟨hk.1.1.1.1.2, ⟨hk.1.1.1.2, ⟨hk.1.1.2, hk.1.2⟩⟩⟩⟩⟩)⟩, ⟨by (with_reducible repeat (first | apply Kd.R_alloc | apply Kd.R_drewN | apply Kd.R_drew)); exact Kd.R_mono HO850.out (fun _ hk => ⟨hk.2, ⟨hk.1.1.1.1.1, ⟨hk.1.1.1.1.2, ⟨hk.1.1.1.2, ⟨hk.1.1.2, hk.1.2⟩⟩⟩⟩⟩)⟩, ⟨by (with_reducible repeat (first | apply Kd.R_alloc | apply Kd.R_drewN | apply Kd.R_drew)); exact Kd.R_mono HO853.out (fun _ hk => ⟨hk.2, ⟨hk.1.1.1.1.1, ⟨hk.1.1.1.1.2, ⟨hk.1.1.1.2, ⟨hk.1.1.2, hk.1.2⟩⟩⟩⟩⟩)⟩, ⟨by (with_reducible repeat (first | apply Kd.N_alloc | apply Kd.N_drewN | apply Kd.N_drew)); exact Kd.N_mono HO862.out (fun _ hk => ⟨hk.2, ⟨hk.1.1.1.2.2.2.1, ⟨hk.1.1.1.2.2.2.2.1, ⟨hk.1.1.1.2.2.2.2.2.1, ⟨hk.1.1.1.2.2.2.2.2.2.1, ⟨hk.1.1.1.1, ⟨hk.1.1.1.2.1, ⟨hk.1.1.1.2.2.1, ⟨hk.1.1.1.2.2.2.2.2.2.2.1, ⟨hk.1.1.1.2.2.2.2.2.2.2.2, ⟨hk.1.1.2, hk.1.2⟩⟩⟩⟩⟩⟩⟩⟩⟩⟩⟩)⟩, ⟨by (with_reducible repeat (first | apply Kd.R_alloc | apply Kd.R_drewN | apply Kd.R_drew)); exact Kd.R_mono HO865.out (fun _ hk => ⟨hk.2, ⟨hk.1.1.1.2, ⟨hk.1.1.2, ⟨hk.1.2, ⟨hk.1.1.1.1.1, hk.1.1.1.1.2⟩⟩⟩⟩⟩)⟩, ⟨by (with_reducible repeat (first | apply Kd.R_alloc | apply Kd.R_drewN | apply Kd.R_drew)); exact Kd.R_mono HO868.out (fun _ hk => ⟨hk.2, ⟨hk.1.1.1.2, ⟨hk.1.1.2, ⟨hk.1.2, ⟨hk.1.1.1.1.1, hk.1.1.1.1.2⟩⟩⟩⟩⟩)⟩, ⟨by (with_reducible repeat (first | apply Kd.R_alloc | apply Kd.R_drewN | apply Kd.R_drew)); exact Kd.R_mono HO871.out (fun _ hk => ⟨hk.2, ⟨hk.1.1.1.2, ⟨hk.1.1.2, ⟨hk.1.2, ⟨hk.1.1.1.1.1, hk.1.1.1.1.2⟩⟩⟩⟩⟩)⟩, ⟨mK BK854.out⟩, ⟨mK BK855.out⟩, ⟨mK BK872.out⟩, ⟨mK BK873.out⟩, ⟨mB HB.out⟩⟩
    case round =>
     clear H'
     (try clear c1); (try clear c2); (try clear p2); (try clear c3); (try clear c4); (try clear c4b0); (try clear c4b1); (try clear c5); (try clear c9); (try clear c11); (try clear c21); (try clear c22); (try clear c23); (try clear c27); (try clear c28); (try clear hcz12_0); (try clear hcz12_1); (try clear hcz12_2); (try clear hcz12_3); (try clear hcz12_4); (try clear hcz15_0); (try clear hcz15_1); (try clear hcz15_2); (try clear hcz24_0); (try clear hcz24_1); (try clear hcz24_2); (try clear hcz24_3); (try clear hcz24_4); (try clear hcz29_0); (try clear hcz29_1); (try clear hcz29_2); (try clear hfz12_0); (try clear hfz12_1); (try clear hfz12_2); (try clear hfz12_3); (try clear hfz12_4); (try clear hfz15_0); (try clear hfz15_1); (try clear hfz15_2); (try clear hfz24_0); (try clear hfz24_1); (try clear hfz24_2); (try clear hfz24_3); (try clear hfz24_4); (try clear hfz29_0); (try clear hfz29_1); (try clear hfz29_2); (try clear p2)
     obtain ⟨x34_2, rfl, HA, HK2, HO_32, HO_855004, HO_856000, HO_856001, HO_856002, HO_873004, HO_874000, HO_874001, HO_874002, BK854, BK855, BK872, BK873, HB⟩ := hrel
     cases gk with
     | zero => exact absurd HA.out (by simp [laws_FnExprSwap.l0])
     | succ k2 =>
      have H := HA.out
      clear HA
      simp only [laws_FnExprSwap.l0] at H
      by_cases c35 : x34_2 < (y874.length : Int)
      ·rw [if_pos c35] at H
       have c35b0 : decide (x34_2 < (y874.length : Int)) = true := decide_eq_true c35
       clear c35
       by_cases c36 : 0 ≤ x34_2
       ·rw [if_pos c36] at H
        have c36b0 : decide (0 ≤ x34_2) = true := decide_eq_true c36
        clear c36
        by_cases c37 : x34_2 < (y874.length : Int)
        ·rw [if_pos c37] at H
         have c37b0 : decide (x34_2 < (y874.length : Int)) = true := decide_eq_true c37
         clear c37
         replace H := Option.bind_eq_some_iff.mp H
         obtain ⟨⟨t878, t879, t880, t881, t882⟩, A380, H⟩ := H
         replace H : ((impl_ExprOf.f t878 t879 t880 t881 t882 t845 t848 t851).bind fun t886 => ((spec_ExprOf.f k2 t878 t879 t880 t881 t882 t845 t848 t851).bind fun t887 => (if t886 = t887 then ((laws_wqTwo.f (rd y874 x34_2) t856 t857 t858 t859 t860 t838 t839 t840 t841 t842).bind fun bt888 => ((impl_ExprOf.f bt888.1 bt888.2.1 bt888.2.2.1 bt888.2.2.2.1 bt888.2.2.2.2 t845 t848 t851).bind fun t895 => (if t886 = t895 then (laws_FnExprSwap.l0 k2 y874 (y874.length : Int) (wrap64 (x34_2 + 1)) t838 t839 t840 t841 t842 t845 t848 t851 t856 t857 t858 t859 t860) else (some false)))) else (some false)))) = some r := H
         have A38 := z0 A380
         clear A380
         replace H := Option.bind_eq_some_iff.mp H
         obtain ⟨t886, A390, H⟩ := H
         replace H : ((spec_ExprOf.f k2 t878 t879 t880 t881 t882 t845 t848 t851).bind fun t887 => (if t886 = t887 then ((laws_wqTwo.f (rd y874 x34_2) t856 t857 t858 t859 t860 t838 t839 t840 t841 t842).bind fun bt888 => ((impl_ExprOf.f bt888.1 bt888.2.1 bt888.2.2.1 bt888.2.2.2.1 bt888.2.2.2.2 t845 t848 t851).bind fun t895 => (if t886 = t895 then (laws_FnExprSwap.l0 k2 y874 (y874.length : Int) (wrap64 (x34_2 + 1)) t838 t839 t840 t841 t842 t845 t848 t851 t856 t857 t858 t859 t860) else (some false)))) else (some false))) = some r := H
         have A39 := z0 A390
         clear A390
         have HF40 := z0 H
         clear H
         have p877 : 0 ≤ (x34_2 : Int) := of_decide_eq_true (by first | (with_reducible assumption) | assumption)
         have q877 : x34_2 < (y874.length : Int) := of_decide_eq_true (by first | (with_reducible assumption) | assumption)
         obtain ⟨ad877, e877, hx877_0⟩ := Kd.at_int (Kd.R_reads' HO_32.out).2.2 x34_2 p877 q877
         cases e877
         replace p877 := eq_true p877
         replace q877 := eq_true q877
         have hnb41 := NB854_855.out
         have hnc41 := NB855_854.out
         have hnb42 := NB854_872.out
         have hnc42 := NB872_854.out
         have hnb43 := NB854_873.out
         have hnc43 := NB873_854.out
         obtain ⟨hcz44_0, hcz44_1, hcz44_2, hcz44_3, hcz44_4, hfz44_0, hfz44_1, hfz44_2, hfz44_3, hfz44_4⟩ := cel5 BK854.out
         have hnb45 := NB872_855.out
         have hnc45 := NB855_872.out
         have hnb46 := NB872_873.out
         have hnc46 := NB873_872.out
         obtain ⟨hcz47_0, hcz47_1, hcz47_2, hcz47_3, hcz47_4, hfz47_0, hfz47_1, hfz47_2, hfz47_3, hfz47_4⟩ := cel5 BK872.out
         go_upto_region 10 with (first | ((with_reducible refine gate_callee (f := 37) rfl ?_); refine goesL_ (some 41) rfl rfl Try.func37 (by kernel_rfl) rfl #[.int .i64 (rd y874 x34_2), .agg #[.int .i64 t838, .int .i64 t839, .int .i64 t840, .int .i64 t841, .slice Ao13 t842.length co13], .agg #[.int .i64 t856, .int .i64 t857, .int .i64 t858, .int .i64 t859, .slice Ao25 t860.length co25]] rfl argx ?_; (with_reducible refine (laws_wqTwo.calls (rd y874 x34_2) t838 t839 t840 t841 (fun k_ => (some k_ ≠ (.slice (some ad877) y874.length co34 : Value).ownBlock ∧ (nB k_ (.slice Ao14 t845.length co14) ∧ (nB k_ (.slice Ao16 t848.length co16) ∧ (nB k_ (.slice Ao17 t851.length co17) ∧ (nB k_ (.slice Ao25 t860.length co25) ∧ (nB k_ (.slice Ao26 t863.length co26) ∧ (nB k_ (.slice Ao30 t866.length co30) ∧ (nB k_ (.slice Ao31 t869.length co31) ∧ (k_ ≠ gb854 ∧ (k_ ≠ gb855 ∧ (k_ ≠ gb872 ∧ k_ ≠ gb873)))))))))))) _ _ t842 t856 t857 t858 t859 (fun k_ => (some k_ ≠ (.slice (some ad877) y874.length co34 : Value).ownBlock ∧ (nB k_ (.slice Ao13 t842.length co13) ∧ (nB k_ (.slice Ao14 t845.length co14) ∧ (nB k_ (.slice Ao16 t848.length co16) ∧ (nB k_ (.slice Ao17 t851.length co17) ∧ (nB k_ (.slice Ao26 t863.length co26) ∧ (nB k_ (.slice Ao30 t866.length co30) ∧ (nB k_ (.slice Ao31 t869.length co31) ∧ (k_ ≠ gb854 ∧ (k_ ≠ gb855 ∧ (k_ ≠ gb872 ∧ k_ ≠ gb873)))))))))))) _ _ t860 t878 t879 t880 t881 t882 _ ?side1 ?side2 A38.out).mono ?_); (case side1 => exact Kd.N_V (HO_855004.out)); (case side2 => exact Kd.N_V (HO_873004.out)); rintro e w48 ⟨v883, rfl, ho0, hb⟩; refine ⟨_, rfl, ?_⟩; have n0_ := z0 (Kd.R_below (mR HO_32.out) hb); have n1_ := z0 (Kd.N_elder' (mN HO_855004.out) (by first | exact Kd.N_base ho0 | exact Kd.R_base ho0) hb); have n2_ := z0 (Kd.R_below (mR HO_856000.out) hb); have n3_ := z0 (Kd.R_below (mR HO_856001.out) hb); have n4_ := z0 (Kd.R_below (mR HO_856002.out) hb); have n5_ := z0 (Kd.N_elder' (mN HO_873004.out) (by first | exact Kd.N_base ho0 | exact Kd.R_base ho0) hb); have n6_ := z0 (Kd.R_below (mR HO_874000.out) hb); have n7_ := z0 (Kd.R_below (mR HO_874001.out) hb); have n8_ := z0 (Kd.R_below (mR HO_874002.out) hb); have n9_ := z0 (Kd.N_lower (Kd.N_mono (ok' := fun k_ => some k_ ≠ (.slice (some ad877) y874.length co34 : Value).ownBlock ∧ nB k_ (.slice Ao14 t845.length co14) ∧ nB k_ (.slice Ao16 t848.length co16) ∧ nB k_ (.slice Ao17 t851.length co17) ∧ nB k_ (.slice Ao26 t863.length co26) ∧ nB k_ (.slice Ao30 t866.length co30) ∧ nB k_ (.slice Ao31 t869.length co31) ∧ k_ ≠ gb854 ∧ k_ ≠ gb855 ∧ k_ ≠ gb872 ∧ k_ ≠ gb873) ho0 (fun k_ hk_ => ⟨Or.elim hk_ (fun hs_ => Or.elim hs_ (fun hs_ => hs_.1) (fun hs_ => hs_.1)) (fun hn_ => (Kd.fresh' (Kd.R_lt (mR HO_32.out)) k_ hn_)), Or.elim hk_ (fun hs_ => Or.elim hs_ (fun hs_ => hs_.2.1) (fun hs_ => hs_.2.2.1)) (fun hn_ => (Kd.fresh' (Kd.R_lt (mR HO_856000.out)) k_ hn_)), Or.elim hk_ (fun hs_ => Or.elim hs_ (fun hs_ => hs_.2.2.1) (fun hs_ => hs_.2.2.2.1)) (fun hn_ => (Kd.fresh' (Kd.R_lt (mR HO_856001.out)) k_ hn_)), Or.elim hk_ (fun hs_ => Or.elim hs_ (fun hs_ => hs_.2.2.2.1) (fun hs_ => hs_.2.2.2.2.1)) (fun hn_ => (Kd.fresh' (Kd.R_lt (mR HO_856002.out)) k_ hn_)), Or.elim hk_ (fun hs_ => Or.elim hs_ (fun hs_ => hs_.2.2.2.2.2.1) (fun hs_ => hs_.2.2.2.2.2.1)) (fun hn_ => (Kd.fresh' (Kd.R_lt (mR HO_874000.out)) k_ hn_)), Or.elim hk_ (fun hs_ => Or.elim hs_ (fun hs_ => hs_.2.2.2.2.2.2.1) (fun hs_ => hs_.2.2.2.2.2.2.1)) (fun hn_ => (Kd.fresh' (Kd.R_lt (mR HO_874001.out)) k_ hn_)), Or.elim hk_ (fun hs_ => Or.elim hs_ (fun hs_ => hs_.2.2.2.2.2.2.2.1) (fun hs_ => hs_.2.2.2.2.2.2.2.1)) (fun hn_ => (Kd.fresh' (Kd.R_lt (mR HO_874002.out)) k_ hn_)), Or.elim hk_ (fun hs_ => Or.elim hs_ (fun hs_ => hs_.2.2.2.2.2.2.2.2.1) (fun hs_ => hs_.2.2.2.2.2.2.2.2.1)) (fun hn_ => (Kd.freshB (g := gb854) (o := .cells #[.int .i64 t838, .int .i64 t839, .int .i64 t840, .int .i64 t841, .slice Ao13 t842.length co13] 32 (0, 0)) (mK BK854.out) k_ hn_)), Or.elim hk_ (fun hs_ => Or.elim hs_ (fun hs_ => hs_.2.2.2.2.2.2.2.2.2.1) (fun hs_ => hs_.2.2.2.2.2.2.2.2.2.1)) (fun hn_ => (Kd.freshB (g := gb855) (o := .cells #[.slice Ao14 t845.length co14, .slice Ao16 t848.length co16, .slice Ao17 t851.length co17] 44 (0, 0)) (mK BK855.out) k_ hn_)), Or.elim hk_ (fun hs_ => Or.elim hs_ (fun hs_ => hs_.2.2.2.2.2.2.2.2.2.2.1) (fun hs_ => hs_.2.2.2.2.2.2.2.2.2.2.1)) (fun hn_ => (Kd.freshB (g := gb872) (o := .cells #[.int .i64 t856, .int .i64 t857, .int .i64 t858, .int .i64 t859, .slice Ao25 t860.length co25] 32 (0, 0)) (mK BK872.out) k_ hn_)), Or.elim hk_ (fun hs_ => Or.elim hs_ (fun hs_ => hs_.2.2.2.2.2.2.2.2.2.2.2) (fun hs_ => hs_.2.2.2.2.2.2.2.2.2.2.2)) (fun hn_ => (Kd.freshB (g := gb873) (o := .cells #[.slice Ao26 t863.length co26, .slice Ao30 t866.length co30, .slice Ao31 t869.length co31] 44 (0, 0)) (mK BK873.out) k_ hn_))⟩)) (below_size (mB HB.out))); have n10_ := z0 (blk_below (g := gb854) (o := .cells #[.int .i64 t838, .int .i64 t839, .int .i64 t840, .int .i64 t841, .slice Ao13 t842.length co13] 32 (0, 0)) (mK BK854.out) hb); have n11_ := z0 (blk_below (g := gb855) (o := .cells #[.slice Ao14 t845.length co14, .slice Ao16 t848.length co16, .slice Ao17 t851.length co17] 44 (0, 0)) (mK BK855.out) hb); have n12_ := z0 (blk_below (g := gb872) (o := .cells #[.int .i64 t856, .int .i64 t857, .int .i64 t858, .int .i64 t859, .slice Ao25 t860.length co25] 32 (0, 0)) (mK BK872.out) hb); have n13_ := z0 (blk_below (g := gb873) (o := .cells #[.slice Ao26 t863.length co26, .slice Ao30 t866.length co30, .slice Ao31 t869.length co31] 44 (0, 0)) (mK BK873.out) hb); have n14_ := z0 (below_step (mB HB.out) hb); clear HO_32; clear HO_855004; clear HO_856000; clear HO_856001; clear HO_856002; clear HO_873004; clear HO_874000; clear HO_874001; clear HO_874002; clear BK854; clear BK855; clear BK872; clear BK873; clear HB; have HO_32 := n0_; have HO_855004 := n1_; have HO_856000 := n2_; have HO_856001 := n3_; have HO_856002 := n4_; have HO_873004 := n5_; have HO_874000 := n6_; have HO_874001 := n7_; have HO_874002 := n8_; have HO884 := n9_; have BK854 := n10_; have BK855 := n11_; have BK872 := n12_; have BK873 := n13_; have HB := n14_; clear n0_ n1_ n2_ n3_ n4_ n5_ n6_ n7_ n8_ n9_ n10_ n11_ n12_ n13_ n14_; (try clear hb); (try clear hb2); (try clear hk); (try clear hi); (try clear ho0)) | ((with_reducible refine gate_dst (N := 11) rfl ?_); (try (refine gate_guard (by rfl) ?_; dsimp only)); refine box_event ?hg (N := 11) ?hd (cs := #[.int .i64 0, .int .i64 0, .int .i64 0, .int .i64 0, .slice none 0 0]) (t := 32) ?hr ?_; (case hd => rfl); (case hg => rfl); (case hr => first | (go_simp; done) | (go_simp; rfl)); intro gb885 hg w49 hbox hb; have n0_ := z0 (Kd.R_below (mR HO_32.out) hb); have n1_ := z0 (Kd.N_below (Kd.N_elderB (mN HO_855004.out) gb885 (Nat.le_of_eq hg.symm)) hb); have n2_ := z0 (Kd.R_below (mR HO_856000.out) hb); have n3_ := z0 (Kd.R_below (mR HO_856001.out) hb); have n4_ := z0 (Kd.R_below (mR HO_856002.out) hb); have n5_ := z0 (Kd.N_below (Kd.N_elderB (mN HO_873004.out) gb885 (Nat.le_of_eq hg.symm)) hb); have n6_ := z0 (Kd.R_below (mR HO_874000.out) hb); have n7_ := z0 (Kd.R_below (mR HO_874001.out) hb); have n8_ := z0 (Kd.R_below (mR HO_874002.out) hb); have n9_ := z0 (Kd.N_below (Kd.N_elderB (mN HO884.out) gb885 (Nat.le_of_eq hg.symm)) hb); have n10_ := z0 (blk_below (g := gb854) (o := .cells #[.int .i64 t838, .int .i64 t839, .int .i64 t840, .int .i64 t841, .slice Ao13 t842.length co13] 32 (0, 0)) (mK BK854.out) hb); have n11_ := z0 (blk_below (g := gb855) (o := .cells #[.slice Ao14 t845.length co14, .slice Ao16 t848.length co16, .slice Ao17 t851.length co17] 44 (0, 0)) (mK BK855.out) hb); have n12_ := z0 (blk_below (g := gb872) (o := .cells #[.int .i64 t856, .int .i64 t857, .int .i64 t858, .int .i64 t859, .slice Ao25 t860.length co25] 32 (0, 0)) (mK BK872.out) hb); have n13_ := z0 (blk_below (g := gb873) (o := .cells #[.slice Ao26 t863.length co26, .slice Ao30 t866.length co30, .slice Ao31 t869.length co31] 44 (0, 0)) (mK BK873.out) hb); have n14_ := z0 (below_step (mB HB.out) hb); have n15_ := z0 (hbox); have n16_ := z0 ((by rw [hg]; exact (below_size (mB HB.out)) : w.heap.size ≤ gb885)); have n17_ := z0 ((by rw [hg]; exact (below_size (mB HB.out)) : w.heap.size ≤ gb885)); have n18_ := z0 ((by rw [hg]; exact Nat.ne_of_lt (blk_lt (g := gb854) (o := .cells #[.int .i64 t838, .int .i64 t839, .int .i64 t840, .int .i64 t841, .slice Ao13 t842.length co13] 32 (0, 0)) (mK BK854.out)) : gb854 ≠ gb885)); have n19_ := z0 ((by rw [hg]; exact Nat.ne_of_gt (blk_lt (g := gb854) (o := .cells #[.int .i64 t838, .int .i64 t839, .int .i64 t840, .int .i64 t841, .slice Ao13 t842.length co13] 32 (0, 0)) (mK BK854.out)) : gb885 ≠ gb854)); have n20_ := z0 ((by rw [hg]; exact Nat.ne_of_lt (blk_lt (g := gb855) (o := .cells #[.slice Ao14 t845.length co14, .slice Ao16 t848.length co16, .slice Ao17 t851.length co17] 44 (0, 0)) (mK BK855.out)) : gb855 ≠ gb885)); have n21_ := z0 ((by rw [hg]; exact Nat.ne_of_gt (blk_lt (g := gb855) (o := .cells #[.slice Ao14 t845.length co14, .slice Ao16 t848.length co16, .slice Ao17 t851.length co17] 44 (0, 0)) (mK BK855.out)) : gb885 ≠ gb855)); have n22_ := z0 ((by rw [hg]; exact Nat.ne_of_lt (blk_lt (g := gb872) (o := .cells #[.int .i64 t856, .int .i64 t857, .int .i64 t858, .int .i64 t859, .slice Ao25 t860.length co25] 32 (0, 0)) (mK BK872.out)) : gb872 ≠ gb885)); have n23_ := z0 ((by rw [hg]; exact Nat.ne_of_gt (blk_lt (g := gb872) (o := .cells #[.int .i64 t856, .int .i64 t857, .int .i64 t858, .int .i64 t859, .slice Ao25 t860.length co25] 32 (0, 0)) (mK BK872.out)) : gb885 ≠ gb872)); have n24_ := z0 ((by rw [hg]; exact Nat.ne_of_lt (blk_lt (g := gb873) (o := .cells #[.slice Ao26 t863.length co26, .slice Ao30 t866.length co30, .slice Ao31 t869.length co31] 44 (0, 0)) (mK BK873.out)) : gb873 ≠ gb885)); have n25_ := z0 ((by rw [hg]; exact Nat.ne_of_gt (blk_lt (g := gb873) (o := .cells #[.slice Ao26 t863.length co26, .slice Ao30 t866.length co30, .slice Ao31 t869.length co31] 44 (0, 0)) (mK BK873.out)) : gb885 ≠ gb873)); clear HO_32; clear HO_855004; clear HO_856000; clear HO_856001; clear HO_856002; clear HO_873004; clear HO_874000; clear HO_874001; clear HO_874002; clear HO884; clear BK854; clear BK855; clear BK872; clear BK873; clear HB; have HO_32 := n0_; have HO_855004 := n1_; have HO_856000 := n2_; have HO_856001 := n3_; have HO_856002 := n4_; have HO_873004 := n5_; have HO_874000 := n6_; have HO_874001 := n7_; have HO_874002 := n8_; have HO884 := n9_; have BK854 := n10_; have BK855 := n11_; have BK872 := n12_; have BK873 := n13_; have HB := n14_; have BK885 := n15_; have GW885 := n16_; have GE885 := n17_; have NB854_885 := n18_; have NB885_854 := n19_; have NB855_885 := n20_; have NB885_855 := n21_; have NB872_885 := n22_; have NB885_872 := n23_; have NB873_885 := n24_; have NB885_873 := n25_; clear n0_ n1_ n2_ n3_ n4_ n5_ n6_ n7_ n8_ n9_ n10_ n11_ n12_ n13_ n14_ n15_ n16_ n17_ n18_ n19_ n20_ n21_ n22_ n23_ n24_ n25_; clear hb hbox hg; have hnb50 := NB885_854.out; have hnc50 := NB854_885.out; have hnb51 := NB885_855.out; have hnc51 := NB855_885.out; have hnb52 := NB885_872.out; have hnc52 := NB872_885.out; have hnb53 := NB885_873.out; have hnc53 := NB873_885.out; obtain ⟨hcz54_0, hcz54_1, hcz54_2, hcz54_3, hcz54_4, hfz54_0, hfz54_1, hfz54_2, hfz54_3, hfz54_4⟩ := cel5 BK885.out; obtain ⟨Ao55, co55, eo55⟩ := Kd.N_slice HO884.out; subst eo55; have hnb56 := NB855_873.out; have hnc56 := NB873_855.out; obtain ⟨hcz57_0, hcz57_1, hcz57_2, hfz57_0, hfz57_1, hfz57_2⟩ := cel3 BK855.out) | ((with_reducible refine gate_callee (f := 26) rfl ?_); refine goesL_ (some 44) rfl rfl Try.func26 (by kernel_rfl) rfl #[.agg #[.int .i64 t878, .int .i64 t879, .int .i64 t880, .int .i64 t881, .slice Ao55 t882.length co55], .agg #[.slice Ao14 t845.length co14, .slice Ao16 t848.length co16, .slice Ao17 t851.length co17]] rfl argx ?_; (with_reducible refine (impl_ExprOf.calls t878 t879 t880 t881 _ _ t882 _ _ t845 _ _ t848 _ _ t851 t886 _ ?side1 ?side2 ?side3 ?side4 ?side5 ?side6 ?side7 ?side8 A39.out).mono ?_); (case side1 => refine (Kd.N_reads' (e := 32) (base := w.heap.size) (ok := fun k_ => ((some k_ ≠ (.slice (some ad877) y874.length co34 : Value).ownBlock ∧ (nB k_ (.slice Ao14 t845.length co14) ∧ (nB k_ (.slice Ao16 t848.length co16) ∧ (nB k_ (.slice Ao17 t851.length co17) ∧ (nB k_ (.slice Ao26 t863.length co26) ∧ (nB k_ (.slice Ao30 t866.length co30) ∧ (nB k_ (.slice Ao31 t869.length co31) ∧ (k_ ≠ gb854 ∧ (k_ ≠ gb855 ∧ (k_ ≠ gb872 ∧ k_ ≠ gb873)))))))))) ∧ k_ ≠ gb885)) (n := t882.length) (c := co55) ?_).2.2; exact (by (with_reducible repeat (first | apply Kd.N_alloc | apply Kd.N_drewN | apply Kd.N_drew)); exact (Kd.N_mono (Kd.N_far (p := ⟨gb885, 4, none⟩) (Kd.N_far (p := ⟨gb885, 3, none⟩) (Kd.N_far (p := ⟨gb885, 2, none⟩) (Kd.N_far (p := ⟨gb885, 1, none⟩) (Kd.N_far (p := ⟨gb885, 0, none⟩) (Kd.N_mono HO884.out (fun k_ hk => (⟨hk, hk.2⟩ : _ ∧ k_ ≠ gb885))) (fun _ hk => hk.2) (.int .i64 t878)) (fun _ hk => hk.2) (.int .i64 t879)) (fun _ hk => hk.2) (.int .i64 t880)) (fun _ hk => hk.2) (.int .i64 t881)) (fun _ hk => hk.2) (.slice Ao55 t882.length co55)) (fun _ h_ => h_.1)))); (case side2 => exact (Kd.N_reads' HO884.out).2.1); (case side3 => refine (Kd.R_reads' (e := 3) (base := w.heap.size) (ok := fun k_ => (some k_ ≠ (.slice (some ad877) y874.length co34 : Value).ownBlock ∧ (nB k_ (.slice Ao16 t848.length co16) ∧ (nB k_ (.slice Ao17 t851.length co17) ∧ (nB k_ (.slice Ao26 t863.length co26) ∧ (nB k_ (.slice Ao30 t866.length co30) ∧ nB k_ (.slice Ao31 t869.length co31))))))) (n := t845.length) (c := co14) ?_).2.2; exact (by (with_reducible repeat (first | apply Kd.R_alloc | apply Kd.R_drewN | apply Kd.R_drew)); exact (Kd.R_mono (Kd.R_far (p := ⟨gb885, 4, none⟩) (Kd.R_far (p := ⟨gb885, 3, none⟩) (Kd.R_far (p := ⟨gb885, 2, none⟩) (Kd.R_far (p := ⟨gb885, 1, none⟩) (Kd.R_far (p := ⟨gb885, 0, none⟩) (Kd.R_types HO_856000.out BK885.out (by decide)) (fun _ hk => hk.2) (.int .i64 t878)) (fun _ hk => hk.2) (.int .i64 t879)) (fun _ hk => hk.2) (.int .i64 t880)) (fun _ hk => hk.2) (.int .i64 t881)) (fun _ hk => hk.2) (.slice Ao55 t882.length co55)) (fun _ h_ => h_.1)))); (case side4 => exact (Kd.R_reads' HO_856000.out).2.1); (case side5 => refine (Kd.R_reads' (e := 3) (base := w.heap.size) (ok := fun k_ => (some k_ ≠ (.slice (some ad877) y874.length co34 : Value).ownBlock ∧ (nB k_ (.slice Ao14 t845.length co14) ∧ (nB k_ (.slice Ao17 t851.length co17) ∧ (nB k_ (.slice Ao26 t863.length co26) ∧ (nB k_ (.slice Ao30 t866.length co30) ∧ nB k_ (.slice Ao31 t869.length co31))))))) (n := t848.length) (c := co16) ?_).2.2; exact (by (with_reducible repeat (first | apply Kd.R_alloc | apply Kd.R_drewN | apply Kd.R_drew)); exact (Kd.R_mono (Kd.R_far (p := ⟨gb885, 4, none⟩) (Kd.R_far (p := ⟨gb885, 3, none⟩) (Kd.R_far (p := ⟨gb885, 2, none⟩) (Kd.R_far (p := ⟨gb885, 1, none⟩) (Kd.R_far (p := ⟨gb885, 0, none⟩) (Kd.R_types HO_856001.out BK885.out (by decide)) (fun _ hk => hk.2) (.int .i64 t878)) (fun _ hk => hk.2) (.int .i64 t879)) (fun _ hk => hk.2) (.int .i64 t880)) (fun _ hk => hk.2) (.int .i64 t881)) (fun _ hk => hk.2) (.slice Ao55 t882.length co55)) (fun _ h_ => h_.1)))); (case side6 => exact (Kd.R_reads' HO_856001.out).2.1); (case side7 => refine (Kd.R_reads' (e := 3) (base := w.heap.size) (ok := fun k_ => (some k_ ≠ (.slice (some ad877) y874.length co34 : Value).ownBlock ∧ (nB k_ (.slice Ao14 t845.length co14) ∧ (nB k_ (.slice Ao16 t848.length co16) ∧ (nB k_ (.slice Ao26 t863.length co26) ∧ (nB k_ (.slice Ao30 t866.length co30) ∧ nB k_ (.slice Ao31 t869.length co31))))))) (n := t851.length) (c := co17) ?_).2.2; exact (by (with_reducible repeat (first | apply Kd.R_alloc | apply Kd.R_drewN | apply Kd.R_drew)); exact (Kd.R_mono (Kd.R_far (p := ⟨gb885, 4, none⟩) (Kd.R_far (p := ⟨gb885, 3, none⟩) (Kd.R_far (p := ⟨gb885, 2, none⟩) (Kd.R_far (p := ⟨gb885, 1, none⟩) (Kd.R_far (p := ⟨gb885, 0, none⟩) (Kd.R_types HO_856002.out BK885.out (by decide)) (fun _ hk => hk.2) (.int .i64 t878)) (fun _ hk => hk.2) (.int .i64 t879)) (fun _ hk => hk.2) (.int .i64 t880)) (fun _ hk => hk.2) (.int .i64 t881)) (fun _ hk => hk.2) (.slice Ao55 t882.length co55)) (fun _ h_ => h_.1)))); (case side8 => exact (Kd.R_reads' HO_856002.out).2.1); rintro e w58 ⟨rfl, hb⟩; refine ⟨_, rfl, ?_⟩; have n0_ := z0 (Kd.R_below (by (with_reducible repeat (first | apply Kd.R_alloc | apply Kd.R_drewN | apply Kd.R_drew)); exact (Kd.R_mono (Kd.R_far (p := ⟨gb885, 4, none⟩) (Kd.R_far (p := ⟨gb885, 3, none⟩) (Kd.R_far (p := ⟨gb885, 2, none⟩) (Kd.R_far (p := ⟨gb885, 1, none⟩) (Kd.R_far (p := ⟨gb885, 0, none⟩) (Kd.R_types HO_32.out BK885.out (by decide)) (fun _ hk => hk.2) (.int .i64 t878)) (fun _ hk => hk.2) (.int .i64 t879)) (fun _ hk => hk.2) (.int .i64 t880)) (fun _ hk => hk.2) (.int .i64 t881)) (fun _ hk => hk.2) (.slice Ao55 t882.length co55)) (fun _ h_ => h_.1))) hb); have n1_ := z0 (Kd.N_below (by (with_reducible repeat (first | apply Kd.N_alloc | apply Kd.N_drewN | apply Kd.N_drew)); exact (Kd.N_mono (Kd.N_far (p := ⟨gb885, 4, none⟩) (Kd.N_far (p := ⟨gb885, 3, none⟩) (Kd.N_far (p := ⟨gb885, 2, none⟩) (Kd.N_far (p := ⟨gb885, 1, none⟩) (Kd.N_far (p := ⟨gb885, 0, none⟩) (Kd.N_mono HO_855004.out (fun k_ hk => (⟨hk, hk.2⟩ : _ ∧ k_ ≠ gb885))) (fun _ hk => hk.2) (.int .i64 t878)) (fun _ hk => hk.2) (.int .i64 t879)) (fun _ hk => hk.2) (.int .i64 t880)) (fun _ hk => hk.2) (.int .i64 t881)) (fun _ hk => hk.2) (.slice Ao55 t882.length co55)) (fun _ h_ => h_.1))) hb); have n2_ := z0 (Kd.R_below (by (with_reducible repeat (first | apply Kd.R_alloc | apply Kd.R_drewN | apply Kd.R_drew)); exact (Kd.R_mono (Kd.R_far (p := ⟨gb885, 4, none⟩) (Kd.R_far (p := ⟨gb885, 3, none⟩) (Kd.R_far (p := ⟨gb885, 2, none⟩) (Kd.R_far (p := ⟨gb885, 1, none⟩) (Kd.R_far (p := ⟨gb885, 0, none⟩) (Kd.R_types HO_856000.out BK885.out (by decide)) (fun _ hk => hk.2) (.int .i64 t878)) (fun _ hk => hk.2) (.int .i64 t879)) (fun _ hk => hk.2) (.int .i64 t880)) (fun _ hk => hk.2) (.int .i64 t881)) (fun _ hk => hk.2) (.slice Ao55 t882.length co55)) (fun _ h_ => h_.1))) hb); have n3_ := z0 (Kd.R_below (by (with_reducible repeat (first | apply Kd.R_alloc | apply Kd.R_drewN | apply Kd.R_drew)); exact (Kd.R_mono (Kd.R_far (p := ⟨gb885, 4, none⟩) (Kd.R_far (p := ⟨gb885, 3, none⟩) (Kd.R_far (p := ⟨gb885, 2, none⟩) (Kd.R_far (p := ⟨gb885, 1, none⟩) (Kd.R_far (p := ⟨gb885, 0, none⟩) (Kd.R_types HO_856001.out BK885.out (by decide)) (fun _ hk => hk.2) (.int .i64 t878)) (fun _ hk => hk.2) (.int .i64 t879)) (fun _ hk => hk.2) (.int .i64 t880)) (fun _ hk => hk.2) (.int .i64 t881)) (fun _ hk => hk.2) (.slice Ao55 t882.length co55)) (fun _ h_ => h_.1))) hb); have n4_ := z0 (Kd.R_below (by (with_reducible repeat (first | apply Kd.R_alloc | apply Kd.R_drewN | apply Kd.R_drew)); exact (Kd.R_mono (Kd.R_far (p := ⟨gb885, 4, none⟩) (Kd.R_far (p := ⟨gb885, 3, none⟩) (Kd.R_far (p := ⟨gb885, 2, none⟩) (Kd.R_far (p := ⟨gb885, 1, none⟩) (Kd.R_far (p := ⟨gb885, 0, none⟩) (Kd.R_types HO_856002.out BK885.out (by decide)) (fun _ hk => hk.2) (.int .i64 t878)) (fun _ hk => hk.2) (.int .i64 t879)) (fun _ hk => hk.2) (.int .i64 t880)) (fun _ hk => hk.2) (.int .i64 t881)) (fun _ hk => hk.2) (.slice Ao55 t882.length co55)) (fun _ h_ => h_.1))) hb); have n5_ := z0 (Kd.N_below (by (with_reducible repeat (first | apply Kd.N_alloc | apply Kd.N_drewN | apply Kd.N_drew)); exact (Kd.N_mono (Kd.N_far (p := ⟨gb885, 4, none⟩) (Kd.N_far (p := ⟨gb885, 3, none⟩) (Kd.N_far (p := ⟨gb885, 2, none⟩) (Kd.N_far (p := ⟨gb885, 1, none⟩) (Kd.N_far (p := ⟨gb885, 0, none⟩) (Kd.N_mono HO_873004.out (fun k_ hk => (⟨hk, hk.2⟩ : _ ∧ k_ ≠ gb885))) (fun _ hk => hk.2) (.int .i64 t878)) (fun _ hk => hk.2) (.int .i64 t879)) (fun _ hk => hk.2) (.int .i64 t880)) (fun _ hk => hk.2) (.int .i64 t881)) (fun _ hk => hk.2) (.slice Ao55 t882.length co55)) (fun _ h_ => h_.1))) hb); have n6_ := z0 (Kd.R_below (by (with_reducible repeat (first | apply Kd.R_alloc | apply Kd.R_drewN | apply Kd.R_drew)); exact (Kd.R_mono (Kd.R_far (p := ⟨gb885, 4, none⟩) (Kd.R_far (p := ⟨gb885, 3, none⟩) (Kd.R_far (p := ⟨gb885, 2, none⟩) (Kd.R_far (p := ⟨gb885, 1, none⟩) (Kd.R_far (p := ⟨gb885, 0, none⟩) (Kd.R_types HO_874000.out BK885.out (by decide)) (fun _ hk => hk.2) (.int .i64 t878)) (fun _ hk => hk.2) (.int .i64 t879)) (fun _ hk => hk.2) (.int .i64 t880)) (fun _ hk => hk.2) (.int .i64 t881)) (fun _ hk => hk.2) (.slice Ao55 t882.length co55)) (fun _ h_ => h_.1))) hb); have n7_ := z0 (Kd.R_below (by (with_reducible repeat (first | apply Kd.R_alloc | apply Kd.R_drewN | apply Kd.R_drew)); exact (Kd.R_mono (Kd.R_far (p := ⟨gb885, 4, none⟩) (Kd.R_far (p := ⟨gb885, 3, none⟩) (Kd.R_far (p := ⟨gb885, 2, none⟩) (Kd.R_far (p := ⟨gb885, 1, none⟩) (Kd.R_far (p := ⟨gb885, 0, none⟩) (Kd.R_types HO_874001.out BK885.out (by decide)) (fun _ hk => hk.2) (.int .i64 t878)) (fun _ hk => hk.2) (.int .i64 t879)) (fun _ hk => hk.2) (.int .i64 t880)) (fun _ hk => hk.2) (.int .i64 t881)) (fun _ hk => hk.2) (.slice Ao55 t882.length co55)) (fun _ h_ => h_.1))) hb); have n8_ := z0 (Kd.R_below (by (with_reducible repeat (first | apply Kd.R_alloc | apply Kd.R_drewN | apply Kd.R_drew)); exact (Kd.R_mono (Kd.R_far (p := ⟨gb885, 4, none⟩) (Kd.R_far (p := ⟨gb885, 3, none⟩) (Kd.R_far (p := ⟨gb885, 2, none⟩) (Kd.R_far (p := ⟨gb885, 1, none⟩) (Kd.R_far (p := ⟨gb885, 0, none⟩) (Kd.R_types HO_874002.out BK885.out (by decide)) (fun _ hk => hk.2) (.int .i64 t878)) (fun _ hk => hk.2) (.int .i64 t879)) (fun _ hk => hk.2) (.int .i64 t880)) (fun _ hk => hk.2) (.int .i64 t881)) (fun _ hk => hk.2) (.slice Ao55 t882.length co55)) (fun _ h_ => h_.1))) hb); have n9_ := z0 (Kd.N_below (by (with_reducible repeat (first | apply Kd.N_alloc | apply Kd.N_drewN | apply Kd.N_drew)); exact (Kd.N_mono (Kd.N_far (p := ⟨gb885, 4, none⟩) (Kd.N_far (p := ⟨gb885, 3, none⟩) (Kd.N_far (p := ⟨gb885, 2, none⟩) (Kd.N_far (p := ⟨gb885, 1, none⟩) (Kd.N_far (p := ⟨gb885, 0, none⟩) (Kd.N_mono HO884.out (fun k_ hk => (⟨hk, hk.2⟩ : _ ∧ k_ ≠ gb885))) (fun _ hk => hk.2) (.int .i64 t878)) (fun _ hk => hk.2) (.int .i64 t879)) (fun _ hk => hk.2) (.int .i64 t880)) (fun _ hk => hk.2) (.int .i64 t881)) (fun _ hk => hk.2) (.slice Ao55 t882.length co55)) (fun _ h_ => h_.1))) hb); have n10_ := z0 (blk_below (g := gb854) (o := .cells #[.int .i64 t838, .int .i64 t839, .int .i64 t840, .int .i64 t841, .slice Ao13 t842.length co13] 32 (0, 0)) (by (with_reducible repeat (first | refine blk_drewN ?_ _ | refine blk_drew ?_ | refine blk_alloc ?_ _)); refine blk_far ?_ NB854_885.out _; (with_reducible repeat (first | refine blk_drewN ?_ _ | refine blk_drew ?_ | refine blk_alloc ?_ _)); refine blk_far ?_ NB854_885.out _; (with_reducible repeat (first | refine blk_drewN ?_ _ | refine blk_drew ?_ | refine blk_alloc ?_ _)); refine blk_far ?_ NB854_885.out _; (with_reducible repeat (first | refine blk_drewN ?_ _ | refine blk_drew ?_ | refine blk_alloc ?_ _)); refine blk_far ?_ NB854_885.out _; (with_reducible repeat (first | refine blk_drewN ?_ _ | refine blk_drew ?_ | refine blk_alloc ?_ _)); refine blk_far ?_ NB854_885.out _; (with_reducible repeat (first | refine blk_drewN ?_ _ | refine blk_drew ?_ | refine blk_alloc ?_ _)); exact BK854.out) hb); have n11_ := z0 (blk_below (g := gb855) (o := .cells #[.slice Ao14 t845.length co14, .slice Ao16 t848.length co16, .slice Ao17 t851.length co17] 44 (0, 0)) (by (with_reducible repeat (first | refine blk_drewN ?_ _ | refine blk_drew ?_ | refine blk_alloc ?_ _)); refine blk_far ?_ NB855_885.out _; (with_reducible repeat (first | refine blk_drewN ?_ _ | refine blk_drew ?_ | refine blk_alloc ?_ _)); refine blk_far ?_ NB855_885.out _; (with_reducible repeat (first | refine blk_drewN ?_ _ | refine blk_drew ?_ | refine blk_alloc ?_ _)); refine blk_far ?_ NB855_885.out _; (with_reducible repeat (first | refine blk_drewN ?_ _ | refine blk_drew ?_ | refine blk_alloc ?_ _)); refine blk_far ?_ NB855_885.out _; (with_reducible repeat (first | refine blk_drewN ?_ _ | refine blk_drew ?_ | refine blk_alloc ?_ _)); refine blk_far ?_ NB855_885.out _; (with_reducible repeat (first | refine blk_drewN ?_ _ | refine blk_drew ?_ | refine blk_alloc ?_ _)); exact BK855.out) hb); have n12_ := z0 (blk_below (g := gb872) (o := .cells #[.int .i64 t856, .int .i64 t857, .int .i64 t858, .int .i64 t859, .slice Ao25 t860.length co25] 32 (0, 0)) (by (with_reducible repeat (first | refine blk_drewN ?_ _ | refine blk_drew ?_ | refine blk_alloc ?_ _)); refine blk_far ?_ NB872_885.out _; (with_reducible repeat (first | refine blk_drewN ?_ _ | refine blk_drew ?_ | refine blk_alloc ?_ _)); refine blk_far ?_ NB872_885.out _; (with_reducible repeat (first | refine blk_drewN ?_ _ | refine blk_drew ?_ | refine blk_alloc ?_ _)); refine blk_far ?_ NB872_885.out _; (with_reducible repeat (first | refine blk_drewN ?_ _ | refine blk_drew ?_ | refine blk_alloc ?_ _)); refine blk_far ?_ NB872_885.out _; (with_reducible repeat (first | refine blk_drewN ?_ _ | refine blk_drew ?_ | refine blk_alloc ?_ _)); refine blk_far ?_ NB872_885.out _; (with_reducible repeat (first | refine blk_drewN ?_ _ | refine blk_drew ?_ | refine blk_alloc ?_ _)); exact BK872.out) hb); have n13_ := z0 (blk_below (g := gb873) (o := .cells #[.slice Ao26 t863.length co26, .slice Ao30 t866.length co30, .slice Ao31 t869.length co31] 44 (0, 0)) (by (with_reducible repeat (first | refine blk_drewN ?_ _ | refine blk_drew ?_ | refine blk_alloc ?_ _)); refine blk_far ?_ NB873_885.out _; (with_reducible repeat (first | refine blk_drewN ?_ _ | refine blk_drew ?_ | refine blk_alloc ?_ _)); refine blk_far ?_ NB873_885.out _; (with_reducible repeat (first | refine blk_drewN ?_ _ | refine blk_drew ?_ | refine blk_alloc ?_ _)); refine blk_far ?_ NB873_885.out _; (with_reducible repeat (first | refine blk_drewN ?_ _ | refine blk_drew ?_ | refine blk_alloc ?_ _)); refine blk_far ?_ NB873_885.out _; (with_reducible repeat (first | refine blk_drewN ?_ _ | refine blk_drew ?_ | refine blk_alloc ?_ _)); refine blk_far ?_ NB873_885.out _; (with_reducible repeat (first | refine blk_drewN ?_ _ | refine blk_drew ?_ | refine blk_alloc ?_ _)); exact BK873.out) hb); have n14_ := z0 (blk_below (g := gb885) (o := .cells #[.int .i64 t878, .int .i64 t879, .int .i64 t880, .int .i64 t881, .slice Ao55 t882.length co55] 32 (0, 0)) (by (with_reducible repeat (first | refine blk_drewN ?_ _ | refine blk_drew ?_ | refine blk_alloc ?_ _)); refine blk_put (cs := #[.int .i64 t878, .int .i64 t879, .int .i64 t880, .int .i64 t881, .slice none 0 0]) ?_ 4 _ rfl; (with_reducible repeat (first | refine blk_drewN ?_ _ | refine blk_drew ?_ | refine blk_alloc ?_ _)); refine blk_put (cs := #[.int .i64 t878, .int .i64 t879, .int .i64 t880, .int .i64 0, .slice none 0 0]) ?_ 3 _ rfl; (with_reducible repeat (first | refine blk_drewN ?_ _ | refine blk_drew ?_ | refine blk_alloc ?_ _)); refine blk_put (cs := #[.int .i64 t878, .int .i64 t879, .int .i64 0, .int .i64 0, .slice none 0 0]) ?_ 2 _ rfl; (with_reducible repeat (first | refine blk_drewN ?_ _ | refine blk_drew ?_ | refine blk_alloc ?_ _)); refine blk_put (cs := #[.int .i64 t878, .int .i64 0, .int .i64 0, .int .i64 0, .slice none 0 0]) ?_ 1 _ rfl; (with_reducible repeat (first | refine blk_drewN ?_ _ | refine blk_drew ?_ | refine blk_alloc ?_ _)); refine blk_put (cs := #[.int .i64 0, .int .i64 0, .int .i64 0, .int .i64 0, .slice none 0 0]) ?_ 0 _ rfl; (with_reducible repeat (first | refine blk_drewN ?_ _ | refine blk_drew ?_ | refine blk_alloc ?_ _)); exact BK885.out) hb); have n15_ := z0 (below_step (mB HB.out) hb); clear HO_32; clear HO_855004; clear HO_856000; clear HO_856001; clear HO_856002; clear HO_873004; clear HO_874000; clear HO_874001; clear HO_874002; clear HO884; clear BK854; clear BK855; clear BK872; clear BK873; clear BK885; clear HB; have HO_32 := n0_; have HO_855004 := n1_; have HO_856000 := n2_; have HO_856001 := n3_; have HO_856002 := n4_; have HO_873004 := n5_; have HO_874000 := n6_; have HO_874001 := n7_; have HO_874002 := n8_; have HO884 := n9_; have BK854 := n10_; have BK855 := n11_; have BK872 := n12_; have BK873 := n13_; have BK885 := n14_; have HB := n15_; clear n0_ n1_ n2_ n3_ n4_ n5_ n6_ n7_ n8_ n9_ n10_ n11_ n12_ n13_ n14_ n15_; (try clear hb); (try clear hb2); (try clear hk); (try clear hi)))
         (try simp only [Act.put, List.setIfInBounds_toArray, List.set_cons_zero, List.set_cons_succ])
         have H := HF40.out
         clear HF40
         (try clear c1); (try clear c2); (try clear p2); (try clear c3); (try clear c4); (try clear c4b0); (try clear c4b1); (try clear c5); (try clear p6); (try clear p8); (try clear q8); (try clear hx8); (try clear c9); (try clear c11); (try clear c21); (try clear c22); (try clear c23); (try clear c26); (try clear c27); (try clear c28); (try clear c35); (try clear c35b0); (try clear c36); (try clear c36b0); (try clear c37); (try clear c37b0); (try clear c41); (try clear c42); (try clear c43); (try clear c45); (try clear c46); (try clear c50); (try clear c51); (try clear c52); (try clear c53); (try clear c56); (try clear hcz12_0); (try clear hcz12_1); (try clear hcz12_2); (try clear hcz12_3); (try clear hcz12_4); (try clear hcz15_0); (try clear hcz15_1); (try clear hcz15_2); (try clear hcz24_0); (try clear hcz24_1); (try clear hcz24_2); (try clear hcz24_3); (try clear hcz24_4); (try clear hcz29_0); (try clear hcz29_1); (try clear hcz29_2); (try clear hcz44_0); (try clear hcz44_1); (try clear hcz44_2); (try clear hcz44_3); (try clear hcz44_4); (try clear hcz47_0); (try clear hcz47_1); (try clear hcz47_2); (try clear hcz47_3); (try clear hcz47_4); (try clear hcz54_0); (try clear hcz54_1); (try clear hcz54_2); (try clear hcz54_3); (try clear hcz54_4); (try clear hcz57_0); (try clear hcz57_1); (try clear hcz57_2); (try clear hfz12_0); (try clear hfz12_1); (try clear hfz12_2); (try clear hfz12_3); (try clear hfz12_4); (try clear hfz15_0); (try clear hfz15_1); (try clear hfz15_2); (try clear hfz24_0); (try clear hfz24_1); (try clear hfz24_2); (try clear hfz24_3); (try clear hfz24_4); (try clear hfz29_0); (try clear hfz29_1); (try clear hfz29_2); (try clear hfz44_0); (try clear hfz44_1); (try clear hfz44_2); (try clear hfz44_3); (try clear hfz44_4); (try clear hfz47_0); (try clear hfz47_1); (try clear hfz47_2); (try clear hfz47_3); (try clear hfz47_4); (try clear hfz54_0); (try clear hfz54_1); (try clear hfz54_2); (try clear hfz54_3); (try clear hfz54_4); (try clear hfz57_0); (try clear hfz57_1); (try clear hfz57_2); (try clear hx877_0); (try clear p2); (try clear p877); (try clear q877)
         replace H := Option.bind_eq_some_iff.mp H
         obtain ⟨t887, A590, H⟩ := H
         replace H : (if t886 = t887 then ((laws_wqTwo.f (rd y874 x34_2) t856 t857 t858 t859 t860 t838 t839 t840 t841 t842).bind fun bt888 => ((impl_ExprOf.f bt888.1 bt888.2.1 bt888.2.2.1 bt888.2.2.2.1 bt888.2.2.2.2 t845 t848 t851).bind fun t895 => (if t886 = t895 then (laws_FnExprSwap.l0 k2 y874 (y874.length : Int) (wrap64 (x34_2 + 1)) t838 t839 t840 t841 t842 t845 t848 t851 t856 t857 t858 t859 t860) else (some false)))) else (some false)) = some r := H
         have A59 := z0 A590
         clear A590
         by_cases c60 : t886 = t887
         ·rw [if_pos c60] at H
          have c60b0 : (t886 == t887) = true := beq_iff_eq.mpr c60
          have c60b1 : (t886 != t887) = false := bne_eq_false_iff_eq.mpr c60
          clear c60
          replace H := Option.bind_eq_some_iff.mp H
          obtain ⟨⟨t888, t889, t890, t891, t892⟩, A610, H⟩ := H
          replace H : ((impl_ExprOf.f t888 t889 t890 t891 t892 t845 t848 t851).bind fun t895 => (if t886 = t895 then (laws_FnExprSwap.l0 k2 y874 (y874.length : Int) (wrap64 (x34_2 + 1)) t838 t839 t840 t841 t842 t845 t848 t851 t856 t857 t858 t859 t860) else (some false))) = some r := H
          have A61 := z0 A610
          clear A610
          replace H := Option.bind_eq_some_iff.mp H
          obtain ⟨t895, A620, H⟩ := H
          replace H : (if t886 = t895 then (laws_FnExprSwap.l0 k2 y874 (y874.length : Int) (wrap64 (x34_2 + 1)) t838 t839 t840 t841 t842 t845 t848 t851 t856 t857 t858 t859 t860) else (some false)) = some r := H
          have A62 := z0 A620
          clear A620
          have HF63 := z0 H
          clear H
          try go_wp2
          have n0_ := z0 (Kd.R_drew HO_32.out)
          have n1_ := z0 (Kd.N_drew HO_855004.out)
          have n2_ := z0 (Kd.R_drew HO_856000.out)
          have n3_ := z0 (Kd.R_drew HO_856001.out)
          have n4_ := z0 (Kd.R_drew HO_856002.out)
          have n5_ := z0 (Kd.N_drew HO_873004.out)
          have n6_ := z0 (Kd.R_drew HO_874000.out)
          have n7_ := z0 (Kd.R_drew HO_874001.out)
          have n8_ := z0 (Kd.R_drew HO_874002.out)
          have n9_ := z0 (Kd.N_drew HO884.out)
          have n10_ := z0 (blk_drew BK854.out)
          have n11_ := z0 (blk_drew BK855.out)
          have n12_ := z0 (blk_drew BK872.out)
          have n13_ := z0 (blk_drew BK873.out)
          have n14_ := z0 (blk_drew BK885.out)
          have n15_ := z0 (below_drew1 HB.out)
          clear HO_32 HO_855004 HO_856000 HO_856001 HO_856002 HO_873004 HO_874000 HO_874001 HO_874002 HO884 BK854 BK855 BK872 BK873 BK885 HB
          have HO_32 := n0_
          have HO_855004 := n1_
          have HO_856000 := n2_
          have HO_856001 := n3_
          have HO_856002 := n4_
          have HO_873004 := n5_
          have HO_874000 := n6_
          have HO_874001 := n7_
          have HO_874002 := n8_
          have HO884 := n9_
          have BK854 := n10_
          have BK855 := n11_
          have BK872 := n12_
          have BK873 := n13_
          have BK885 := n14_
          have HB := n15_
          clear n0_ n1_ n2_ n3_ n4_ n5_ n6_ n7_ n8_ n9_ n10_ n11_ n12_ n13_ n14_ n15_
          refine start_ (n := 15) (S := fun w' => w'.cell? ⟨gb885, 0, none⟩ = some (.int .i64 t878) ∧ w'.cell? ⟨gb885, 1, none⟩ = some (.int .i64 t879) ∧ w'.cell? ⟨gb885, 2, none⟩ = some (.int .i64 t880) ∧ w'.cell? ⟨gb885, 3, none⟩ = some (.int .i64 t881) ∧ w'.cell? ⟨gb885, 4, none⟩ = some (.slice Ao55 t882.length co55) ∧ w'.cell? ⟨gb855, 0, none⟩ = some (.slice Ao14 t845.length co14) ∧ w'.cell? ⟨gb855, 1, none⟩ = some (.slice Ao16 t848.length co16) ∧ w'.cell? ⟨gb855, 2, none⟩ = some (.slice Ao17 t851.length co17) ∧ w'.cell? ⟨gb872, 0, none⟩ = some (.int .i64 t856) ∧ w'.cell? ⟨gb872, 1, none⟩ = some (.int .i64 t857) ∧ w'.cell? ⟨gb872, 2, none⟩ = some (.int .i64 t858) ∧ w'.cell? ⟨gb872, 3, none⟩ = some (.int .i64 t859) ∧ w'.cell? ⟨gb872, 4, none⟩ = some (.slice Ao25 t860.length co25) ∧ w'.cell? ⟨gb854, 0, none⟩ = some (.int .i64 t838) ∧ w'.cell? ⟨gb854, 1, none⟩ = some (.int .i64 t839) ∧ w'.cell? ⟨gb854, 2, none⟩ = some (.int .i64 t840) ∧ w'.cell? ⟨gb854, 3, none⟩ = some (.int .i64 t841) ∧ w'.cell? ⟨gb854, 4, none⟩ = some (.slice Ao13 t842.length co13)) (ds := []) #[false, false, false, false, false, false, false, false, false, false, false, false, false, false, false] (by kernel_rfl) rfl rfl ⟨(blk_cell BK885.out 0).trans rfl, (blk_cell BK885.out 1).trans rfl, (blk_cell BK885.out 2).trans rfl, (blk_cell BK885.out 3).trans rfl, (blk_cell BK885.out 4).trans rfl, (blk_cell BK855.out 0).trans rfl, (blk_cell BK855.out 1).trans rfl, (blk_cell BK855.out 2).trans rfl, (blk_cell BK872.out 0).trans rfl, (blk_cell BK872.out 1).trans rfl, (blk_cell BK872.out 2).trans rfl, (blk_cell BK872.out 3).trans rfl, (blk_cell BK872.out 4).trans rfl, (blk_cell BK854.out 0).trans rfl, (blk_cell BK854.out 1).trans rfl, (blk_cell BK854.out 2).trans rfl, (blk_cell BK854.out 3).trans rfl, (blk_cell BK854.out 4).trans rfl⟩ (fun hHeld => ?_); refine with_tabW laws_FnExprSwap.tab10 laws_FnExprSwap.bits10 (fun HT_ HW_ => ?_)
          generalize w58.drew = w64 at HO_32 HO_855004 HO_856000 HO_856001 HO_856002 HO_873004 HO_874000 HO_874001 HO_874002 HO884 BK854 BK855 BK872 BK873 BK885 HB hHeld ⊢
          refine pure_ (i := 0) (N := some 45) (v := ?_) (a' := ?_) #[true, false, false, false, false, false, false, false, false, false, false, false, false, false, false] rfl rfl (any_of HT_.out (by kernel_rfl)) (fun _ _ _ h => h) (Or.inl ⟨by rfl, ?_⟩) ?_ ?_
          rotate_left
          ·intro w'
           go_simp
           with_reducible rfl
          rotate_left
          ·simp only [Act.put, List.setIfInBounds_toArray, List.set_cons_zero, List.set_cons_succ, i64_w, i32_w]
           rfl
          refine take_ (i := 1) (N := some 46) (v := ?_) (a' := ?_) #[true, true, false, false, false, false, false, false, false, false, false, false, false, false, false] rfl rfl (take_ofW HT_.out HW_.out (by kernel_rfl)) (fun _ _ _ h => h) (Or.inl ⟨by rfl, ?_⟩) hHeld ?_ ?_
          rotate_left
          ·rintro w' ⟨s0, s1, s2, s3, s4, s5, s6, s7, s8, s9, s10, s11, s12, s13, s14, s15, s16, s17⟩
           go_simp
           with_reducible rfl
          rotate_left
          ·simp only [Act.put, List.setIfInBounds_toArray, List.set_cons_zero, List.set_cons_succ, i64_w, i32_w]
           rfl
          refine take_ (i := 2) (N := some 47) (v := ?_) (a' := ?_) #[true, true, true, false, false, false, false, false, false, false, false, false, false, false, false] rfl rfl (take_ofW HT_.out HW_.out (by kernel_rfl)) (fun _ _ _ h => h) (Or.inl ⟨by rfl, ?_⟩) hHeld ?_ ?_
          rotate_left
          ·rintro w' ⟨s0, s1, s2, s3, s4, s5, s6, s7, s8, s9, s10, s11, s12, s13, s14, s15, s16, s17⟩
           go_simp
           with_reducible rfl
          rotate_left
          ·simp only [Act.put, List.setIfInBounds_toArray, List.set_cons_zero, List.set_cons_succ, i64_w, i32_w]
           rfl
          refine one_ (i := 3) (N := some 48) #[true, true, true, true, false, false, false, false, false, false, false, false, false, false, false] rfl rfl (one_of HT_.out (by kernel_rfl)) (by decide) (fun K hK => ?_)
          refine goes_ Try.func24 (by kernel_rfl) rfl #[.agg #[.int .i64 t878, .int .i64 t879, .int .i64 t880, .int .i64 t881, .slice Ao55 t882.length co55], .agg #[.slice Ao14 t845.length co14, .slice Ao16 t848.length co16, .slice Ao17 t851.length co17]] (by rfl) rfl rfl argx ?_
          with_reducible refine (spec_ExprOf.calls k2 t878 t879 t880 t881 _ _ t882 _ _ t845 _ _ t848 _ _ t851 t887 _ ?side1 ?side2 ?side3 ?side4 ?side5 ?side6 ?side7 ?side8 A59.out).mono ?_
          (case side1 => exact mC (Kd.N_reads' HO884.out).2.2)
          (case side2 => exact (Kd.N_reads' HO884.out).2.1)
          (case side3 => exact mC (Kd.R_reads' HO_856000.out).2.2)
          (case side4 => exact (Kd.R_reads' HO_856000.out).2.1)
          (case side5 => exact mC (Kd.R_reads' HO_856001.out).2.2)
          (case side6 => exact (Kd.R_reads' HO_856001.out).2.1)
          (case side7 => exact mC (Kd.R_reads' HO_856002.out).2.2)
          (case side8 => exact (Kd.R_reads' HO_856002.out).2.1)
          rintro e w65 ⟨rfl, hb⟩
          refine ⟨_, rfl, ?_⟩
          have n0_ := z0 (Kd.R_below (mR HO_32.out) hb)
          have n1_ := z0 (Kd.N_below (mN HO_855004.out) hb)
          have n2_ := z0 (Kd.R_below (mR HO_856000.out) hb)
          have n3_ := z0 (Kd.R_below (mR HO_856001.out) hb)
          have n4_ := z0 (Kd.R_below (mR HO_856002.out) hb)
          have n5_ := z0 (Kd.N_below (mN HO_873004.out) hb)
          have n6_ := z0 (Kd.R_below (mR HO_874000.out) hb)
          have n7_ := z0 (Kd.R_below (mR HO_874001.out) hb)
          have n8_ := z0 (Kd.R_below (mR HO_874002.out) hb)
          have n9_ := z0 (Kd.N_below (mN HO884.out) hb)
          have n10_ := z0 (blk_below (g := gb854) (o := .cells #[.int .i64 t838, .int .i64 t839, .int .i64 t840, .int .i64 t841, .slice Ao13 t842.length co13] 32 (0, 0)) (mK BK854.out) hb)
          have n11_ := z0 (blk_below (g := gb855) (o := .cells #[.slice Ao14 t845.length co14, .slice Ao16 t848.length co16, .slice Ao17 t851.length co17] 44 (0, 0)) (mK BK855.out) hb)
          have n12_ := z0 (blk_below (g := gb872) (o := .cells #[.int .i64 t856, .int .i64 t857, .int .i64 t858, .int .i64 t859, .slice Ao25 t860.length co25] 32 (0, 0)) (mK BK872.out) hb)
          have n13_ := z0 (blk_below (g := gb873) (o := .cells #[.slice Ao26 t863.length co26, .slice Ao30 t866.length co30, .slice Ao31 t869.length co31] 44 (0, 0)) (mK BK873.out) hb)
          have n14_ := z0 (blk_below (g := gb885) (o := .cells #[.int .i64 t878, .int .i64 t879, .int .i64 t880, .int .i64 t881, .slice Ao55 t882.length co55] 32 (0, 0)) (mK BK885.out) hb)
          have n15_ := z0 (below_step (mB HB.out) hb)
          clear HO_32 HO_855004 HO_856000 HO_856001 HO_856002 HO_873004 HO_874000 HO_874001 HO_874002 HO884 BK854 BK855 BK872 BK873 BK885 HB
          have HO_32 := n0_
          have HO_855004 := n1_
          have HO_856000 := n2_
          have HO_856001 := n3_
          have HO_856002 := n4_
          have HO_873004 := n5_
          have HO_874000 := n6_
          have HO_874001 := n7_
          have HO_874002 := n8_
          have HO884 := n9_
          have BK854 := n10_
          have BK855 := n11_
          have BK872 := n12_
          have BK873 := n13_
          have BK885 := n14_
          have HB := n15_
          clear n0_ n1_ n2_ n3_ n4_ n5_ n6_ n7_ n8_ n9_ n10_ n11_ n12_ n13_ n14_ n15_
          (try clear hb)
          (try clear hb2)
          (try clear hk)
          (try clear hi)
          refine hK.out _ _ ⟨(blk_cell BK885.out 0).trans rfl, (blk_cell BK885.out 1).trans rfl, (blk_cell BK885.out 2).trans rfl, (blk_cell BK885.out 3).trans rfl, (blk_cell BK885.out 4).trans rfl, (blk_cell BK855.out 0).trans rfl, (blk_cell BK855.out 1).trans rfl, (blk_cell BK855.out 2).trans rfl, (blk_cell BK872.out 0).trans rfl, (blk_cell BK872.out 1).trans rfl, (blk_cell BK872.out 2).trans rfl, (blk_cell BK872.out 3).trans rfl, (blk_cell BK872.out 4).trans rfl, (blk_cell BK854.out 0).trans rfl, (blk_cell BK854.out 1).trans rfl, (blk_cell BK854.out 2).trans rfl, (blk_cell BK854.out 3).trans rfl, (blk_cell BK854.out 4).trans rfl⟩ (fun hHeld => ?_)
          clear hK K
          refine norm_ (a' := ?_) ?_ ?_
          rotate_left
          ·show Act.put _ (some 48) _ = _
           simp only [Act.put, List.setIfInBounds_toArray, List.set_cons_zero, List.set_cons_succ, i64_w, i32_w]
           rfl
          refine pure_ (i := 4) (N := some 49) (v := ?_) (a' := ?_) #[true, true, true, true, true, false, false, false, false, false, false, false, false, false, false] rfl rfl (any_of HT_.out (by kernel_rfl)) (fun _ _ _ h => h) (Or.inl ⟨by rfl, ?_⟩) ?_ ?_
          rotate_left
          ·intro w'
           go_simp
           with_reducible rfl
          rotate_left
          ·simp only [Act.put, List.setIfInBounds_toArray, List.set_cons_zero, List.set_cons_succ, i64_w, i32_w]
           rfl
          refine pure_ (i := 5) (N := some 50) (v := ?_) (a' := ?_) #[true, true, true, true, true, true, false, false, false, false, false, false, false, false, false] rfl rfl (any_of HT_.out (by kernel_rfl)) (fun _ _ _ h => h) (Or.inl ⟨by rfl, ?_⟩) ?_ ?_
          rotate_left
          ·intro w'
           go_simp
           with_reducible rfl
          rotate_left
          ·simp only [Act.put, List.setIfInBounds_toArray, List.set_cons_zero, List.set_cons_succ, i64_w, i32_w]
           rfl
          refine pure_ (i := 6) (N := some 51) (v := ?_) (a' := ?_) #[true, true, true, true, true, true, true, false, false, false, false, false, false, false, false] rfl rfl (any_of HT_.out (by kernel_rfl)) (fun _ _ _ h => h) (Or.inl ⟨by rfl, ?_⟩) ?_ ?_
          rotate_left
          ·intro w'
           go_simp
           with_reducible rfl
          rotate_left
          ·simp only [Act.put, List.setIfInBounds_toArray, List.set_cons_zero, List.set_cons_succ, i64_w, i32_w]
           rfl
          refine pure_ (i := 7) (N := some 52) (v := ?_) (a' := ?_) #[true, true, true, true, true, true, true, true, false, false, false, false, false, false, false] rfl rfl (any_of HT_.out (by kernel_rfl)) (fun _ _ _ h => h) (Or.inl ⟨by rfl, ?_⟩) ?_ ?_
          rotate_left
          ·intro w'
           go_simp
           with_reducible rfl
          rotate_left
          ·simp only [Act.put, List.setIfInBounds_toArray, List.set_cons_zero, List.set_cons_succ, i64_w, i32_w]
           rfl
          refine take_ (i := 8) (N := some 53) (v := ?_) (a' := ?_) #[true, true, true, true, true, true, true, true, true, false, false, false, false, false, false] rfl rfl (take_ofW HT_.out HW_.out (by kernel_rfl)) (fun _ _ _ h => h) (Or.inl ⟨by rfl, ?_⟩) hHeld ?_ ?_
          rotate_left
          ·rintro w' ⟨s0, s1, s2, s3, s4, s5, s6, s7, s8, s9, s10, s11, s12, s13, s14, s15, s16, s17⟩
           go_simp
           with_reducible rfl
          rotate_left
          ·simp only [Act.put, List.setIfInBounds_toArray, List.set_cons_zero, List.set_cons_succ, i64_w, i32_w]
           rfl
          refine take_ (i := 9) (N := some 54) (v := ?_) (a' := ?_) #[true, true, true, true, true, true, true, true, true, true, false, false, false, false, false] rfl rfl (take_ofW HT_.out HW_.out (by kernel_rfl)) (fun _ _ _ h => h) (Or.inl ⟨by rfl, ?_⟩) hHeld ?_ ?_
          rotate_left
          ·rintro w' ⟨s0, s1, s2, s3, s4, s5, s6, s7, s8, s9, s10, s11, s12, s13, s14, s15, s16, s17⟩
           go_simp
           with_reducible rfl
          rotate_left
          ·simp only [Act.put, List.setIfInBounds_toArray, List.set_cons_zero, List.set_cons_succ, i64_w, i32_w]
           rfl
          refine take_ (i := 11) (N := some 56) (v := ?_) (a' := ?_) #[true, true, true, true, true, true, true, true, true, true, false, true, false, false, false] rfl rfl (take_ofW HT_.out HW_.out (by kernel_rfl)) (fun _ _ _ h => h) (Or.inl ⟨by rfl, ?_⟩) hHeld ?_ ?_
          rotate_left
          ·rintro w' ⟨s0, s1, s2, s3, s4, s5, s6, s7, s8, s9, s10, s11, s12, s13, s14, s15, s16, s17⟩
           go_simp
           with_reducible rfl
          rotate_left
          ·simp only [Act.put, List.setIfInBounds_toArray, List.set_cons_zero, List.set_cons_succ, i64_w, i32_w]
           rfl
          refine one_ (i := 10) (N := some 55) #[true, true, true, true, true, true, true, true, true, true, true, true, false, false, false] rfl rfl (one_of HT_.out (by kernel_rfl)) (by decide) (fun K hK => ?_)
          refine goes_ Try.func37 (by kernel_rfl) rfl #[.int .i64 (rd y874 x34_2), .agg #[.int .i64 t856, .int .i64 t857, .int .i64 t858, .int .i64 t859, .slice Ao25 t860.length co25], .agg #[.int .i64 t838, .int .i64 t839, .int .i64 t840, .int .i64 t841, .slice Ao13 t842.length co13]] (by rfl) rfl rfl argx ?_
          with_reducible refine (laws_wqTwo.calls (rd y874 x34_2) t856 t857 t858 t859 (fun k_ => (((some k_ ≠ (.slice (some ad877) y874.length co34 : Value).ownBlock ∧ (nB k_ (.slice Ao13 t842.length co13) ∧ (nB k_ (.slice Ao14 t845.length co14) ∧ (nB k_ (.slice Ao16 t848.length co16) ∧ (nB k_ (.slice Ao17 t851.length co17) ∧ (nB k_ (.slice Ao26 t863.length co26) ∧ (nB k_ (.slice Ao30 t866.length co30) ∧ (nB k_ (.slice Ao31 t869.length co31) ∧ (k_ ≠ gb854 ∧ (k_ ≠ gb855 ∧ (k_ ≠ gb872 ∧ k_ ≠ gb873))))))))))) ∧ nB k_ (.slice Ao55 t882.length co55)) ∧ k_ ≠ gb885)) _ _ t860 t838 t839 t840 t841 (fun k_ => (((some k_ ≠ (.slice (some ad877) y874.length co34 : Value).ownBlock ∧ (nB k_ (.slice Ao14 t845.length co14) ∧ (nB k_ (.slice Ao16 t848.length co16) ∧ (nB k_ (.slice Ao17 t851.length co17) ∧ (nB k_ (.slice Ao25 t860.length co25) ∧ (nB k_ (.slice Ao26 t863.length co26) ∧ (nB k_ (.slice Ao30 t866.length co30) ∧ (nB k_ (.slice Ao31 t869.length co31) ∧ (k_ ≠ gb854 ∧ (k_ ≠ gb855 ∧ (k_ ≠ gb872 ∧ k_ ≠ gb873))))))))))) ∧ nB k_ (.slice Ao55 t882.length co55)) ∧ k_ ≠ gb885)) _ _ t842 t888 t889 t890 t891 t892 _ ?side1 ?side2 A61.out).mono ?_
          (case side1 => exact Kd.N_V (HO_873004.out))
          (case side2 => exact Kd.N_V (HO_855004.out))
          rintro e w66 ⟨v893, rfl, ho0, hb⟩
          refine ⟨_, rfl, ?_⟩
          have n0_ := z0 (Kd.R_below (mR HO_32.out) hb)
          have n1_ := z0 (Kd.N_elder' (mN HO_855004.out) (by first | exact Kd.N_base ho0 | exact Kd.R_base ho0) hb)
          have n2_ := z0 (Kd.R_below (mR HO_856000.out) hb)
          have n3_ := z0 (Kd.R_below (mR HO_856001.out) hb)
          have n4_ := z0 (Kd.R_below (mR HO_856002.out) hb)
          have n5_ := z0 (Kd.N_elder' (mN HO_873004.out) (by first | exact Kd.N_base ho0 | exact Kd.R_base ho0) hb)
          have n6_ := z0 (Kd.R_below (mR HO_874000.out) hb)
          have n7_ := z0 (Kd.R_below (mR HO_874001.out) hb)
          have n8_ := z0 (Kd.R_below (mR HO_874002.out) hb)
          have n9_ := z0 (Kd.N_elder' (mN HO884.out) (by first | exact Kd.N_base ho0 | exact Kd.R_base ho0) hb)
          have n10_ := z0 (Kd.N_lower (Kd.N_mono (ok' := fun k_ => some k_ ≠ (.slice (some ad877) y874.length co34 : Value).ownBlock ∧ nB k_ (.slice Ao14 t845.length co14) ∧ nB k_ (.slice Ao16 t848.length co16) ∧ nB k_ (.slice Ao17 t851.length co17) ∧ nB k_ (.slice Ao26 t863.length co26) ∧ nB k_ (.slice Ao30 t866.length co30) ∧ nB k_ (.slice Ao31 t869.length co31) ∧ nB k_ (.slice Ao55 t882.length co55) ∧ k_ ≠ gb854 ∧ k_ ≠ gb855 ∧ k_ ≠ gb872 ∧ k_ ≠ gb873 ∧ k_ ≠ gb885) ho0 (fun k_ hk_ => ⟨Or.elim hk_ (fun hs_ => Or.elim hs_ (fun hs_ => hs_.1.1.1) (fun hs_ => hs_.1.1.1)) (fun hn_ => (Kd.fresh' (Kd.R_lt (mR HO_32.out)) k_ hn_)), Or.elim hk_ (fun hs_ => Or.elim hs_ (fun hs_ => hs_.1.1.2.2.1) (fun hs_ => hs_.1.1.2.1)) (fun hn_ => (Kd.fresh' (Kd.R_lt (mR HO_856000.out)) k_ hn_)), Or.elim hk_ (fun hs_ => Or.elim hs_ (fun hs_ => hs_.1.1.2.2.2.1) (fun hs_ => hs_.1.1.2.2.1)) (fun hn_ => (Kd.fresh' (Kd.R_lt (mR HO_856001.out)) k_ hn_)), Or.elim hk_ (fun hs_ => Or.elim hs_ (fun hs_ => hs_.1.1.2.2.2.2.1) (fun hs_ => hs_.1.1.2.2.2.1)) (fun hn_ => (Kd.fresh' (Kd.R_lt (mR HO_856002.out)) k_ hn_)), Or.elim hk_ (fun hs_ => Or.elim hs_ (fun hs_ => hs_.1.1.2.2.2.2.2.1) (fun hs_ => hs_.1.1.2.2.2.2.2.1)) (fun hn_ => (Kd.fresh' (Kd.R_lt (mR HO_874000.out)) k_ hn_)), Or.elim hk_ (fun hs_ => Or.elim hs_ (fun hs_ => hs_.1.1.2.2.2.2.2.2.1) (fun hs_ => hs_.1.1.2.2.2.2.2.2.1)) (fun hn_ => (Kd.fresh' (Kd.R_lt (mR HO_874001.out)) k_ hn_)), Or.elim hk_ (fun hs_ => Or.elim hs_ (fun hs_ => hs_.1.1.2.2.2.2.2.2.2.1) (fun hs_ => hs_.1.1.2.2.2.2.2.2.2.1)) (fun hn_ => (Kd.fresh' (Kd.R_lt (mR HO_874002.out)) k_ hn_)), Or.elim hk_ (fun hs_ => Or.elim hs_ (fun hs_ => hs_.1.2) (fun hs_ => hs_.1.2)) (fun hn_ => (Kd.fresh' (Kd.N_lt (mN HO884.out)) k_ hn_)), Or.elim hk_ (fun hs_ => Or.elim hs_ (fun hs_ => hs_.1.1.2.2.2.2.2.2.2.2.1) (fun hs_ => hs_.1.1.2.2.2.2.2.2.2.2.1)) (fun hn_ => (Kd.freshB (g := gb854) (o := .cells #[.int .i64 t838, .int .i64 t839, .int .i64 t840, .int .i64 t841, .slice Ao13 t842.length co13] 32 (0, 0)) (mK BK854.out) k_ hn_)), Or.elim hk_ (fun hs_ => Or.elim hs_ (fun hs_ => hs_.1.1.2.2.2.2.2.2.2.2.2.1) (fun hs_ => hs_.1.1.2.2.2.2.2.2.2.2.2.1)) (fun hn_ => (Kd.freshB (g := gb855) (o := .cells #[.slice Ao14 t845.length co14, .slice Ao16 t848.length co16, .slice Ao17 t851.length co17] 44 (0, 0)) (mK BK855.out) k_ hn_)), Or.elim hk_ (fun hs_ => Or.elim hs_ (fun hs_ => hs_.1.1.2.2.2.2.2.2.2.2.2.2.1) (fun hs_ => hs_.1.1.2.2.2.2.2.2.2.2.2.2.1)) (fun hn_ => (Kd.freshB (g := gb872) (o := .cells #[.int .i64 t856, .int .i64 t857, .int .i64 t858, .int .i64 t859, .slice Ao25 t860.length co25] 32 (0, 0)) (mK BK872.out) k_ hn_)), Or.elim hk_ (fun hs_ => Or.elim hs_ (fun hs_ => hs_.1.1.2.2.2.2.2.2.2.2.2.2.2) (fun hs_ => hs_.1.1.2.2.2.2.2.2.2.2.2.2.2)) (fun hn_ => (Kd.freshB (g := gb873) (o := .cells #[.slice Ao26 t863.length co26, .slice Ao30 t866.length co30, .slice Ao31 t869.length co31] 44 (0, 0)) (mK BK873.out) k_ hn_)), Or.elim hk_ (fun hs_ => Or.elim hs_ (fun hs_ => hs_.2) (fun hs_ => hs_.2)) (fun hn_ => (Kd.freshB (g := gb885) (o := .cells #[.int .i64 t878, .int .i64 t879, .int .i64 t880, .int .i64 t881, .slice Ao55 t882.length co55] 32 (0, 0)) (mK BK885.out) k_ hn_))⟩)) (below_size (mB HB.out)))
          have n11_ := z0 (blk_below (g := gb854) (o := .cells #[.int .i64 t838, .int .i64 t839, .int .i64 t840, .int .i64 t841, .slice Ao13 t842.length co13] 32 (0, 0)) (mK BK854.out) hb)
          have n12_ := z0 (blk_below (g := gb855) (o := .cells #[.slice Ao14 t845.length co14, .slice Ao16 t848.length co16, .slice Ao17 t851.length co17] 44 (0, 0)) (mK BK855.out) hb)
          have n13_ := z0 (blk_below (g := gb872) (o := .cells #[.int .i64 t856, .int .i64 t857, .int .i64 t858, .int .i64 t859, .slice Ao25 t860.length co25] 32 (0, 0)) (mK BK872.out) hb)
          have n14_ := z0 (blk_below (g := gb873) (o := .cells #[.slice Ao26 t863.length co26, .slice Ao30 t866.length co30, .slice Ao31 t869.length co31] 44 (0, 0)) (mK BK873.out) hb)
          have n15_ := z0 (blk_below (g := gb885) (o := .cells #[.int .i64 t878, .int .i64 t879, .int .i64 t880, .int .i64 t881, .slice Ao55 t882.length co55] 32 (0, 0)) (mK BK885.out) hb)
          have n16_ := z0 (below_step (mB HB.out) hb)
          clear HO_32 HO_855004 HO_856000 HO_856001 HO_856002 HO_873004 HO_874000 HO_874001 HO_874002 HO884 BK854 BK855 BK872 BK873 BK885 HB
          have HO_32 := n0_
          have HO_855004 := n1_
          have HO_856000 := n2_
          have HO_856001 := n3_
          have HO_856002 := n4_
          have HO_873004 := n5_
          have HO_874000 := n6_
          have HO_874001 := n7_
          have HO_874002 := n8_
          have HO884 := n9_
          have HO894 := n10_
          have BK854 := n11_
          have BK855 := n12_
          have BK872 := n13_
          have BK873 := n14_
          have BK885 := n15_
          have HB := n16_
          clear n0_ n1_ n2_ n3_ n4_ n5_ n6_ n7_ n8_ n9_ n10_ n11_ n12_ n13_ n14_ n15_ n16_
          (try clear hb)
          (try clear hb2)
          (try clear hk)
          (try clear hi)
          (try clear ho0)
          obtain ⟨Ao67, co67, eo67⟩ := Kd.N_slice HO894.out
          (first | subst eo67 | (injection eo67 with f1_ f2_ f3_; have f4_ := f1_.symm; have f5_ := f3_.symm; clear f1_ f2_ f3_; subst f4_; subst f5_))
          refine hK.out _ _ ⟨(blk_cell BK885.out 0).trans rfl, (blk_cell BK885.out 1).trans rfl, (blk_cell BK885.out 2).trans rfl, (blk_cell BK885.out 3).trans rfl, (blk_cell BK885.out 4).trans rfl, (blk_cell BK855.out 0).trans rfl, (blk_cell BK855.out 1).trans rfl, (blk_cell BK855.out 2).trans rfl, (blk_cell BK872.out 0).trans rfl, (blk_cell BK872.out 1).trans rfl, (blk_cell BK872.out 2).trans rfl, (blk_cell BK872.out 3).trans rfl, (blk_cell BK872.out 4).trans rfl, (blk_cell BK854.out 0).trans rfl, (blk_cell BK854.out 1).trans rfl, (blk_cell BK854.out 2).trans rfl, (blk_cell BK854.out 3).trans rfl, (blk_cell BK854.out 4).trans rfl⟩ (fun hHeld => ?_)
          clear hK K
          refine norm_ (a' := ?_) ?_ ?_
          rotate_left
          ·show Act.put _ (some 55) _ = _
           simp only [Act.put, List.setIfInBounds_toArray, List.set_cons_zero, List.set_cons_succ, i64_w, i32_w]
           rfl
          refine one_ (i := 12) (N := some 57) #[true, true, true, true, true, true, true, true, true, true, true, true, true, false, false] rfl rfl (one_of HT_.out (by kernel_rfl)) (by decide) (fun K hK => ?_)
          refine goes_ Try.func26 (by kernel_rfl) rfl #[.agg #[.int .i64 t888, .int .i64 t889, .int .i64 t890, .int .i64 t891, .slice Ao67 t892.length co67], .agg #[.slice Ao14 t845.length co14, .slice Ao16 t848.length co16, .slice Ao17 t851.length co17]] (by rfl) rfl rfl argx ?_
          with_reducible refine (impl_ExprOf.calls t888 t889 t890 t891 _ _ t892 _ _ t845 _ _ t848 _ _ t851 t895 _ ?side1 ?side2 ?side3 ?side4 ?side5 ?side6 ?side7 ?side8 A62.out).mono ?_
          (case side1 => exact mC (Kd.N_reads' HO894.out).2.2)
          (case side2 => exact (Kd.N_reads' HO894.out).2.1)
          (case side3 => exact mC (Kd.R_reads' HO_856000.out).2.2)
          (case side4 => exact (Kd.R_reads' HO_856000.out).2.1)
          (case side5 => exact mC (Kd.R_reads' HO_856001.out).2.2)
          (case side6 => exact (Kd.R_reads' HO_856001.out).2.1)
          (case side7 => exact mC (Kd.R_reads' HO_856002.out).2.2)
          (case side8 => exact (Kd.R_reads' HO_856002.out).2.1)
          rintro e w68 ⟨rfl, hb⟩
          refine ⟨_, rfl, ?_⟩
          have n0_ := z0 (Kd.R_below (mR HO_32.out) hb)
          have n1_ := z0 (Kd.N_below (mN HO_855004.out) hb)
          have n2_ := z0 (Kd.R_below (mR HO_856000.out) hb)
          have n3_ := z0 (Kd.R_below (mR HO_856001.out) hb)
          have n4_ := z0 (Kd.R_below (mR HO_856002.out) hb)
          have n5_ := z0 (Kd.N_below (mN HO_873004.out) hb)
          have n6_ := z0 (Kd.R_below (mR HO_874000.out) hb)
          have n7_ := z0 (Kd.R_below (mR HO_874001.out) hb)
          have n8_ := z0 (Kd.R_below (mR HO_874002.out) hb)
          have n9_ := z0 (Kd.N_below (mN HO884.out) hb)
          have n10_ := z0 (Kd.N_below (mN HO894.out) hb)
          have n11_ := z0 (blk_below (g := gb854) (o := .cells #[.int .i64 t838, .int .i64 t839, .int .i64 t840, .int .i64 t841, .slice Ao13 t842.length co13] 32 (0, 0)) (mK BK854.out) hb)
          have n12_ := z0 (blk_below (g := gb855) (o := .cells #[.slice Ao14 t845.length co14, .slice Ao16 t848.length co16, .slice Ao17 t851.length co17] 44 (0, 0)) (mK BK855.out) hb)
          have n13_ := z0 (blk_below (g := gb872) (o := .cells #[.int .i64 t856, .int .i64 t857, .int .i64 t858, .int .i64 t859, .slice Ao25 t860.length co25] 32 (0, 0)) (mK BK872.out) hb)
          have n14_ := z0 (blk_below (g := gb873) (o := .cells #[.slice Ao26 t863.length co26, .slice Ao30 t866.length co30, .slice Ao31 t869.length co31] 44 (0, 0)) (mK BK873.out) hb)
          have n15_ := z0 (blk_below (g := gb885) (o := .cells #[.int .i64 t878, .int .i64 t879, .int .i64 t880, .int .i64 t881, .slice Ao55 t882.length co55] 32 (0, 0)) (mK BK885.out) hb)
          have n16_ := z0 (below_step (mB HB.out) hb)
          clear HO_32 HO_855004 HO_856000 HO_856001 HO_856002 HO_873004 HO_874000 HO_874001 HO_874002 HO884 HO894 BK854 BK855 BK872 BK873 BK885 HB
          have HO_32 := n0_
          have HO_855004 := n1_
          have HO_856000 := n2_
          have HO_856001 := n3_
          have HO_856002 := n4_
          have HO_873004 := n5_
          have HO_874000 := n6_
          have HO_874001 := n7_
          have HO_874002 := n8_
          have HO884 := n9_
          have HO894 := n10_
          have BK854 := n11_
          have BK855 := n12_
          have BK872 := n13_
          have BK873 := n14_
          have BK885 := n15_
          have HB := n16_
          clear n0_ n1_ n2_ n3_ n4_ n5_ n6_ n7_ n8_ n9_ n10_ n11_ n12_ n13_ n14_ n15_ n16_
          (try clear hb)
          (try clear hb2)
          (try clear hk)
          (try clear hi)
          refine hK.out _ _ ⟨(blk_cell BK885.out 0).trans rfl, (blk_cell BK885.out 1).trans rfl, (blk_cell BK885.out 2).trans rfl, (blk_cell BK885.out 3).trans rfl, (blk_cell BK885.out 4).trans rfl, (blk_cell BK855.out 0).trans rfl, (blk_cell BK855.out 1).trans rfl, (blk_cell BK855.out 2).trans rfl, (blk_cell BK872.out 0).trans rfl, (blk_cell BK872.out 1).trans rfl, (blk_cell BK872.out 2).trans rfl, (blk_cell BK872.out 3).trans rfl, (blk_cell BK872.out 4).trans rfl, (blk_cell BK854.out 0).trans rfl, (blk_cell BK854.out 1).trans rfl, (blk_cell BK854.out 2).trans rfl, (blk_cell BK854.out 3).trans rfl, (blk_cell BK854.out 4).trans rfl⟩ (fun hHeld => ?_)
          clear hK K
          refine norm_ (a' := ?_) ?_ ?_
          rotate_left
          ·show Act.put _ (some 57) _ = _
           simp only [Act.put, List.setIfInBounds_toArray, List.set_cons_zero, List.set_cons_succ, i64_w, i32_w]
           rfl
          refine pure_ (i := 13) (N := some 58) (v := ?_) (a' := ?_) #[true, true, true, true, true, true, true, true, true, true, true, true, true, true, false] rfl rfl (any_of HT_.out (by kernel_rfl)) (fun _ _ _ h => h) (Or.inl ⟨by rfl, ?_⟩) ?_ ?_
          rotate_left
          ·intro w'
           go_simp
           with_reducible rfl
          rotate_left
          ·simp only [Act.put, List.setIfInBounds_toArray, List.set_cons_zero, List.set_cons_succ, i64_w, i32_w]
           rfl
          refine pure_ (i := 14) (N := some 59) (v := ?_) (a' := ?_) #[true, true, true, true, true, true, true, true, true, true, true, true, true, true, true] rfl rfl (any_of HT_.out (by kernel_rfl)) (fun _ _ _ h => h) (Or.inl ⟨by rfl, ?_⟩) ?_ ?_
          rotate_left
          ·intro w'
           go_simp
           with_reducible rfl
          rotate_left
          ·simp only [Act.put, List.setIfInBounds_toArray, List.set_cons_zero, List.set_cons_succ, i64_w, i32_w]
           rfl
          refine done_ (done_of HT_.out (by kernel_rfl)) ?_
          go_upto_if 59 with (fail)
          have H := HF63.out
          clear HF63
          (try clear c1); (try clear c2); (try clear p2); (try clear c3); (try clear c4); (try clear c4b0); (try clear c4b1); (try clear c5); (try clear c6); (try clear p6); (try clear p8); (try clear q8); (try clear hx8); (try clear c9); (try clear c11); (try clear c21); (try clear c22); (try clear c23); (try clear c24); (try clear c26); (try clear c27); (try clear c28); (try clear c35); (try clear c35b0); (try clear c36); (try clear c36b0); (try clear c37); (try clear c37b0); (try clear c41); (try clear c42); (try clear c43); (try clear c45); (try clear c46); (try clear c50); (try clear c51); (try clear c52); (try clear c53); (try clear c56); (try clear c60); (try clear c60b0); (try clear c60b1); (try clear p64); (try clear hcz12_0); (try clear hcz12_1); (try clear hcz12_2); (try clear hcz12_3); (try clear hcz12_4); (try clear hcz15_0); (try clear hcz15_1); (try clear hcz15_2); (try clear hcz24_0); (try clear hcz24_1); (try clear hcz24_2); (try clear hcz24_3); (try clear hcz24_4); (try clear hcz29_0); (try clear hcz29_1); (try clear hcz29_2); (try clear hcz44_0); (try clear hcz44_1); (try clear hcz44_2); (try clear hcz44_3); (try clear hcz44_4); (try clear hcz47_0); (try clear hcz47_1); (try clear hcz47_2); (try clear hcz47_3); (try clear hcz47_4); (try clear hcz54_0); (try clear hcz54_1); (try clear hcz54_2); (try clear hcz54_3); (try clear hcz54_4); (try clear hcz57_0); (try clear hcz57_1); (try clear hcz57_2); (try clear hfz12_0); (try clear hfz12_1); (try clear hfz12_2); (try clear hfz12_3); (try clear hfz12_4); (try clear hfz15_0); (try clear hfz15_1); (try clear hfz15_2); (try clear hfz24_0); (try clear hfz24_1); (try clear hfz24_2); (try clear hfz24_3); (try clear hfz24_4); (try clear hfz29_0); (try clear hfz29_1); (try clear hfz29_2); (try clear hfz44_0); (try clear hfz44_1); (try clear hfz44_2); (try clear hfz44_3); (try clear hfz44_4); (try clear hfz47_0); (try clear hfz47_1); (try clear hfz47_2); (try clear hfz47_3); (try clear hfz47_4); (try clear hfz54_0); (try clear hfz54_1); (try clear hfz54_2); (try clear hfz54_3); (try clear hfz54_4); (try clear hfz57_0); (try clear hfz57_1); (try clear hfz57_2); (try clear hx877_0); (try clear p2); (try clear p6); (try clear p8); (try clear p877); (try clear q8); (try clear q877)
          by_cases c69 : t886 = t895
          ·rw [if_pos c69] at H
           have c69b0 : (t886 == t895) = true := beq_iff_eq.mpr c69
           have c69b1 : (t886 != t895) = false := bne_eq_false_iff_eq.mpr c69
           clear c69
           (first | rw [c69b0] | (simp only [i64_w, i32_w]; rw [c69b0]) | skip)
           have H' := z0 H
           clear H
           go_wp2
           go_roundg k2
           case measure => have := HJ2.out; have := HK2.out; omega
           case rel => exact ⟨(wrap64 (x34_2 + 1)), rfy, H', ⟨by have := HJ2.out; have := HK2.out; omega⟩, ⟨mR HO_32.out⟩, ⟨by (with_reducible repeat (first | apply Kd.N_alloc | apply Kd.N_drewN | apply Kd.N_drew)); exact Kd.N_mono HO_855004.out (fun _ hk => ⟨hk.1.1.1.1, ⟨hk.1.1.1.2.1, ⟨hk.1.1.1.2.2.1, ⟨hk.1.1.1.2.2.2.1, ⟨hk.1.1.1.2.2.2.2.1, ⟨hk.1.1.1.2.2.2.2.2.1, ⟨hk.1.1.1.2.2.2.2.2.2.1, ⟨hk.1.1.1.2.2.2.2.2.2.2.1, ⟨hk.1.1.1.2.2.2.2.2.2.2.2.1, ⟨hk.1.1.1.2.2.2.2.2.2.2.2.2.1, ⟨hk.1.1.1.2.2.2.2.2.2.2.2.2.2.1, hk.1.1.1.2.2.2.2.2.2.2.2.2.2.2⟩⟩⟩⟩⟩⟩⟩⟩⟩⟩⟩)⟩, ⟨mR HO_856000.out⟩, ⟨mR HO_856001.out⟩, ⟨mR HO_856002.out⟩, ⟨by (with_reducible repeat (first | apply Kd.N_alloc | apply Kd.N_drewN | apply Kd.N_drew)); exact Kd.N_mono HO_873004.out (fun _ hk => ⟨hk.1.1.1.1, ⟨hk.1.1.1.2.1, ⟨hk.1.1.1.2.2.1, ⟨hk.1.1.1.2.2.2.1, ⟨hk.1.1.1.2.2.2.2.1, ⟨hk.1.1.1.2.2.2.2.2.1, ⟨hk.1.1.1.2.2.2.2.2.2.1, ⟨hk.1.1.1.2.2.2.2.2.2.2.1, ⟨hk.1.1.1.2.2.2.2.2.2.2.2.1, ⟨hk.1.1.1.2.2.2.2.2.2.2.2.2.1, ⟨hk.1.1.1.2.2.2.2.2.2.2.2.2.2.1, hk.1.1.1.2.2.2.2.2.2.2.2.2.2.2⟩⟩⟩⟩⟩⟩⟩⟩⟩⟩⟩)⟩, ⟨mR HO_874000.out⟩, ⟨mR HO_874001.out⟩, ⟨mR HO_874002.out⟩, ⟨mK BK854.out⟩, ⟨mK BK855.out⟩, ⟨mK BK872.out⟩, ⟨mK BK873.out⟩, ⟨mB HB.out⟩⟩
          ·rw [if_neg c69] at H
           have c69b0 : (t886 == t895) = false := beq_eq_false_iff_ne.mpr c69
           have c69b1 : (t886 != t895) = true := bne_iff_ne.mpr c69
           (first | rw [c69b0] | (simp only [i64_w, i32_w]; rw [c69b0]) | skip)
           obtain rfl := Option.some.inj H
           go_wp2
           go_ret
           exact ⟨rfx, mB HB.out⟩
         ·rw [if_neg c60] at H
          have c60b0 : (t886 == t887) = false := beq_eq_false_iff_ne.mpr c60
          have c60b1 : (t886 != t887) = true := bne_iff_ne.mpr c60
          obtain rfl := Option.some.inj H
          try go_wp2
          have n0_ := z0 (Kd.R_drew HO_32.out)
          have n1_ := z0 (Kd.N_drew HO_855004.out)
          have n2_ := z0 (Kd.R_drew HO_856000.out)
          have n3_ := z0 (Kd.R_drew HO_856001.out)
          have n4_ := z0 (Kd.R_drew HO_856002.out)
          have n5_ := z0 (Kd.N_drew HO_873004.out)
          have n6_ := z0 (Kd.R_drew HO_874000.out)
          have n7_ := z0 (Kd.R_drew HO_874001.out)
          have n8_ := z0 (Kd.R_drew HO_874002.out)
          have n9_ := z0 (Kd.N_drew HO884.out)
          have n10_ := z0 (blk_drew BK854.out)
          have n11_ := z0 (blk_drew BK855.out)
          have n12_ := z0 (blk_drew BK872.out)
          have n13_ := z0 (blk_drew BK873.out)
          have n14_ := z0 (blk_drew BK885.out)
          have n15_ := z0 (below_drew1 HB.out)
          clear HO_32 HO_855004 HO_856000 HO_856001 HO_856002 HO_873004 HO_874000 HO_874001 HO_874002 HO884 BK854 BK855 BK872 BK873 BK885 HB
          have HO_32 := n0_
          have HO_855004 := n1_
          have HO_856000 := n2_
          have HO_856001 := n3_
          have HO_856002 := n4_
          have HO_873004 := n5_
          have HO_874000 := n6_
          have HO_874001 := n7_
          have HO_874002 := n8_
          have HO884 := n9_
          have BK854 := n10_
          have BK855 := n11_
          have BK872 := n12_
          have BK873 := n13_
          have BK885 := n14_
          have HB := n15_
          clear n0_ n1_ n2_ n3_ n4_ n5_ n6_ n7_ n8_ n9_ n10_ n11_ n12_ n13_ n14_ n15_
          refine start_ (n := 15) (S := fun w' => w'.cell? ⟨gb885, 0, none⟩ = some (.int .i64 t878) ∧ w'.cell? ⟨gb885, 1, none⟩ = some (.int .i64 t879) ∧ w'.cell? ⟨gb885, 2, none⟩ = some (.int .i64 t880) ∧ w'.cell? ⟨gb885, 3, none⟩ = some (.int .i64 t881) ∧ w'.cell? ⟨gb885, 4, none⟩ = some (.slice Ao55 t882.length co55) ∧ w'.cell? ⟨gb855, 0, none⟩ = some (.slice Ao14 t845.length co14) ∧ w'.cell? ⟨gb855, 1, none⟩ = some (.slice Ao16 t848.length co16) ∧ w'.cell? ⟨gb855, 2, none⟩ = some (.slice Ao17 t851.length co17)) (ds := []) #[false, false, false, false, false, false, false, false, false, false, false, false, false, false, false] (by kernel_rfl) rfl rfl ⟨(blk_cell BK885.out 0).trans rfl, (blk_cell BK885.out 1).trans rfl, (blk_cell BK885.out 2).trans rfl, (blk_cell BK885.out 3).trans rfl, (blk_cell BK885.out 4).trans rfl, (blk_cell BK855.out 0).trans rfl, (blk_cell BK855.out 1).trans rfl, (blk_cell BK855.out 2).trans rfl⟩ (fun hHeld => ?_); refine with_tabW laws_FnExprSwap.tab10 laws_FnExprSwap.bits10 (fun HT_ HW_ => ?_)
          generalize w58.drew = w70 at HO_32 HO_855004 HO_856000 HO_856001 HO_856002 HO_873004 HO_874000 HO_874001 HO_874002 HO884 BK854 BK855 BK872 BK873 BK885 HB hHeld ⊢
          refine pure_ (i := 0) (N := some 45) (v := ?_) (a' := ?_) #[true, false, false, false, false, false, false, false, false, false, false, false, false, false, false] rfl rfl (any_of HT_.out (by kernel_rfl)) (fun _ _ _ h => h) (Or.inl ⟨by rfl, ?_⟩) ?_ ?_
          rotate_left
          ·intro w'
           go_simp
           with_reducible rfl
          rotate_left
          ·simp only [Act.put, List.setIfInBounds_toArray, List.set_cons_zero, List.set_cons_succ, i64_w, i32_w]
           rfl
          refine take_ (i := 1) (N := some 46) (v := ?_) (a' := ?_) #[true, true, false, false, false, false, false, false, false, false, false, false, false, false, false] rfl rfl (take_ofW HT_.out HW_.out (by kernel_rfl)) (fun _ _ _ h => h) (Or.inl ⟨by rfl, ?_⟩) hHeld ?_ ?_
          rotate_left
          ·rintro w' ⟨s0, s1, s2, s3, s4, s5, s6, s7⟩
           go_simp
           with_reducible rfl
          rotate_left
          ·simp only [Act.put, List.setIfInBounds_toArray, List.set_cons_zero, List.set_cons_succ, i64_w, i32_w]
           rfl
          refine take_ (i := 2) (N := some 47) (v := ?_) (a' := ?_) #[true, true, true, false, false, false, false, false, false, false, false, false, false, false, false] rfl rfl (take_ofW HT_.out HW_.out (by kernel_rfl)) (fun _ _ _ h => h) (Or.inl ⟨by rfl, ?_⟩) hHeld ?_ ?_
          rotate_left
          ·rintro w' ⟨s0, s1, s2, s3, s4, s5, s6, s7⟩
           go_simp
           with_reducible rfl
          rotate_left
          ·simp only [Act.put, List.setIfInBounds_toArray, List.set_cons_zero, List.set_cons_succ, i64_w, i32_w]
           rfl
          refine one_ (i := 3) (N := some 48) #[true, true, true, true, false, false, false, false, false, false, false, false, false, false, false] rfl rfl (one_of HT_.out (by kernel_rfl)) (by decide) (fun K hK => ?_)
          refine goes_ Try.func24 (by kernel_rfl) rfl #[.agg #[.int .i64 t878, .int .i64 t879, .int .i64 t880, .int .i64 t881, .slice Ao55 t882.length co55], .agg #[.slice Ao14 t845.length co14, .slice Ao16 t848.length co16, .slice Ao17 t851.length co17]] (by rfl) rfl rfl argx ?_
          with_reducible refine (spec_ExprOf.calls k2 t878 t879 t880 t881 _ _ t882 _ _ t845 _ _ t848 _ _ t851 t887 _ ?side1 ?side2 ?side3 ?side4 ?side5 ?side6 ?side7 ?side8 A59.out).mono ?_
          (case side1 => exact mC (Kd.N_reads' HO884.out).2.2)
          (case side2 => exact (Kd.N_reads' HO884.out).2.1)
          (case side3 => exact mC (Kd.R_reads' HO_856000.out).2.2)
          (case side4 => exact (Kd.R_reads' HO_856000.out).2.1)
          (case side5 => exact mC (Kd.R_reads' HO_856001.out).2.2)
          (case side6 => exact (Kd.R_reads' HO_856001.out).2.1)
          (case side7 => exact mC (Kd.R_reads' HO_856002.out).2.2)
          (case side8 => exact (Kd.R_reads' HO_856002.out).2.1)
          rintro e w71 ⟨rfl, hb⟩
          refine ⟨_, rfl, ?_⟩
          have n0_ := z0 (Kd.R_below (mR HO_32.out) hb)
          have n1_ := z0 (Kd.N_below (mN HO_855004.out) hb)
          have n2_ := z0 (Kd.R_below (mR HO_856000.out) hb)
          have n3_ := z0 (Kd.R_below (mR HO_856001.out) hb)
          have n4_ := z0 (Kd.R_below (mR HO_856002.out) hb)
          have n5_ := z0 (Kd.N_below (mN HO_873004.out) hb)
          have n6_ := z0 (Kd.R_below (mR HO_874000.out) hb)
          have n7_ := z0 (Kd.R_below (mR HO_874001.out) hb)
          have n8_ := z0 (Kd.R_below (mR HO_874002.out) hb)
          have n9_ := z0 (Kd.N_below (mN HO884.out) hb)
          have n10_ := z0 (blk_below (g := gb854) (o := .cells #[.int .i64 t838, .int .i64 t839, .int .i64 t840, .int .i64 t841, .slice Ao13 t842.length co13] 32 (0, 0)) (mK BK854.out) hb)
          have n11_ := z0 (blk_below (g := gb855) (o := .cells #[.slice Ao14 t845.length co14, .slice Ao16 t848.length co16, .slice Ao17 t851.length co17] 44 (0, 0)) (mK BK855.out) hb)
          have n12_ := z0 (blk_below (g := gb872) (o := .cells #[.int .i64 t856, .int .i64 t857, .int .i64 t858, .int .i64 t859, .slice Ao25 t860.length co25] 32 (0, 0)) (mK BK872.out) hb)
          have n13_ := z0 (blk_below (g := gb873) (o := .cells #[.slice Ao26 t863.length co26, .slice Ao30 t866.length co30, .slice Ao31 t869.length co31] 44 (0, 0)) (mK BK873.out) hb)
          have n14_ := z0 (blk_below (g := gb885) (o := .cells #[.int .i64 t878, .int .i64 t879, .int .i64 t880, .int .i64 t881, .slice Ao55 t882.length co55] 32 (0, 0)) (mK BK885.out) hb)
          have n15_ := z0 (below_step (mB HB.out) hb)
          clear HO_32 HO_855004 HO_856000 HO_856001 HO_856002 HO_873004 HO_874000 HO_874001 HO_874002 HO884 BK854 BK855 BK872 BK873 BK885 HB
          have HO_32 := n0_
          have HO_855004 := n1_
          have HO_856000 := n2_
          have HO_856001 := n3_
          have HO_856002 := n4_
          have HO_873004 := n5_
          have HO_874000 := n6_
          have HO_874001 := n7_
          have HO_874002 := n8_
          have HO884 := n9_
          have BK854 := n10_
          have BK855 := n11_
          have BK872 := n12_
          have BK873 := n13_
          have BK885 := n14_
          have HB := n15_
          clear n0_ n1_ n2_ n3_ n4_ n5_ n6_ n7_ n8_ n9_ n10_ n11_ n12_ n13_ n14_ n15_
          (try clear hb)
          (try clear hb2)
          (try clear hk)
          (try clear hi)
          refine hK.out _ _ ⟨(blk_cell BK885.out 0).trans rfl, (blk_cell BK885.out 1).trans rfl, (blk_cell BK885.out 2).trans rfl, (blk_cell BK885.out 3).trans rfl, (blk_cell BK885.out 4).trans rfl, (blk_cell BK855.out 0).trans rfl, (blk_cell BK855.out 1).trans rfl, (blk_cell BK855.out 2).trans rfl⟩ (fun hHeld => ?_)
          clear hK K
          refine norm_ (a' := ?_) ?_ ?_
          rotate_left
          ·show Act.put _ (some 48) _ = _
           simp only [Act.put, List.setIfInBounds_toArray, List.set_cons_zero, List.set_cons_succ, i64_w, i32_w]
           rfl
          refine pure_ (i := 4) (N := some 49) (v := ?_) (a' := ?_) #[true, true, true, true, true, false, false, false, false, false, false, false, false, false, false] rfl rfl (any_of HT_.out (by kernel_rfl)) (fun _ _ _ h => h) (Or.inl ⟨by rfl, ?_⟩) ?_ ?_
          rotate_left
          ·intro w'
           go_simp
           with_reducible rfl
          rotate_left
          ·simp only [Act.put, List.setIfInBounds_toArray, List.set_cons_zero, List.set_cons_succ, i64_w, i32_w]
           rfl
          refine pure_ (i := 5) (N := some 50) (v := ?_) (a' := ?_) #[true, true, true, true, true, true, false, false, false, false, false, false, false, false, false] rfl rfl (any_of HT_.out (by kernel_rfl)) (fun _ _ _ h => h) (Or.inl ⟨by rfl, ?_⟩) ?_ ?_
          rotate_left
          ·intro w'
           go_simp
           with_reducible rfl
          rotate_left
          ·simp only [Act.put, List.setIfInBounds_toArray, List.set_cons_zero, List.set_cons_succ, i64_w, i32_w]
           rfl
          refine pure_ (i := 6) (N := some 51) (v := undef) (a' := ?_) #[true, true, true, true, true, true, true, false, false, false, false, false, false, false, false] rfl rfl (any_of HT_.out (by kernel_rfl)) (fun _ _ _ h => h) (Or.inr ⟨by rfl, rfl⟩) ?_ ?_
          rotate_left
          ·simp only [Act.put, List.setIfInBounds_toArray, List.set_cons_zero, List.set_cons_succ, i64_w, i32_w]
           rfl
          refine pure_ (i := 7) (N := some 52) (v := undef) (a' := ?_) #[true, true, true, true, true, true, true, true, false, false, false, false, false, false, false] rfl rfl (any_of HT_.out (by kernel_rfl)) (fun _ _ _ h => h) (Or.inr ⟨by rfl, rfl⟩) ?_ ?_
          rotate_left
          ·simp only [Act.put, List.setIfInBounds_toArray, List.set_cons_zero, List.set_cons_succ, i64_w, i32_w]
           rfl
          refine pure_ (i := 8) (N := some 53) (v := undef) (a' := ?_) #[true, true, true, true, true, true, true, true, true, false, false, false, false, false, false] rfl rfl (any_of HT_.out (by kernel_rfl)) (fun _ _ _ h => h) (Or.inr ⟨by rfl, rfl⟩) ?_ ?_
          rotate_left
          ·simp only [Act.put, List.setIfInBounds_toArray, List.set_cons_zero, List.set_cons_succ, i64_w, i32_w]
           rfl
          refine pure_ (i := 9) (N := some 54) (v := undef) (a' := ?_) #[true, true, true, true, true, true, true, true, true, true, false, false, false, false, false] rfl rfl (any_of HT_.out (by kernel_rfl)) (fun _ _ _ h => h) (Or.inr ⟨by rfl, rfl⟩) ?_ ?_
          rotate_left
          ·simp only [Act.put, List.setIfInBounds_toArray, List.set_cons_zero, List.set_cons_succ, i64_w, i32_w]
           rfl
          refine pure_ (i := 10) (N := some 55) (v := undef) (a' := ?_) #[true, true, true, true, true, true, true, true, true, true, true, false, false, false, false] rfl rfl (any_of HT_.out (by kernel_rfl)) (fun _ _ _ h => h) (Or.inr ⟨by rfl, rfl⟩) ?_ ?_
          rotate_left
          ·simp only [Act.put, List.setIfInBounds_toArray, List.set_cons_zero, List.set_cons_succ, i64_w, i32_w]
           rfl
          refine pure_ (i := 11) (N := some 56) (v := undef) (a' := ?_) #[true, true, true, true, true, true, true, true, true, true, true, true, false, false, false] rfl rfl (any_of HT_.out (by kernel_rfl)) (fun _ _ _ h => h) (Or.inr ⟨by rfl, rfl⟩) ?_ ?_
          rotate_left
          ·simp only [Act.put, List.setIfInBounds_toArray, List.set_cons_zero, List.set_cons_succ, i64_w, i32_w]
           rfl
          refine pure_ (i := 12) (N := some 57) (v := undef) (a' := ?_) #[true, true, true, true, true, true, true, true, true, true, true, true, true, false, false] rfl rfl (any_of HT_.out (by kernel_rfl)) (fun _ _ _ h => h) (Or.inr ⟨by rfl, rfl⟩) ?_ ?_
          rotate_left
          ·simp only [Act.put, List.setIfInBounds_toArray, List.set_cons_zero, List.set_cons_succ, i64_w, i32_w]
           rfl
          refine pure_ (i := 13) (N := some 58) (v := undef) (a' := ?_) #[true, true, true, true, true, true, true, true, true, true, true, true, true, true, false] rfl rfl (any_of HT_.out (by kernel_rfl)) (fun _ _ _ h => h) (Or.inr ⟨by rfl, rfl⟩) ?_ ?_
          rotate_left
          ·simp only [Act.put, List.setIfInBounds_toArray, List.set_cons_zero, List.set_cons_succ, i64_w, i32_w]
           rfl
          refine pure_ (i := 14) (N := some 59) (v := ?_) (a' := ?_) #[true, true, true, true, true, true, true, true, true, true, true, true, true, true, true] rfl rfl (any_of HT_.out (by kernel_rfl)) (fun _ _ _ h => h) (Or.inl ⟨by rfl, ?_⟩) ?_ ?_
          rotate_left
          ·intro w'
           go_simp
           with_reducible rfl
          rotate_left
          ·simp only [Act.put, List.setIfInBounds_toArray, List.set_cons_zero, List.set_cons_succ, i64_w, i32_w]
           rfl
          refine done_ (done_of HT_.out (by kernel_rfl)) ?_
          try go_wp2
          go_ret
          exact ⟨rfx, mB HB.out⟩
        ·rw [if_neg c37] at H
         exact absurd H (by simp)
       ·rw [if_neg c36] at H
        exact absurd H (by simp)
      ·rw [if_neg c35] at H
       have c35b0 : decide (x34_2 < (y874.length : Int)) = false := decide_eq_false c35
       clear c35
       replace H := Option.bind_eq_some_iff.mp H
       obtain ⟨⟨t896, t897, t898, t899, t900⟩, A720, H⟩ := H
       replace H : ((impl_ExprOf.f t896 t897 t898 t899 t900 t845 t848 t851).bind fun t904 => ((laws_wqTwo.f 4 t856 t857 t858 t859 t860 t838 t839 t840 t841 t842).bind fun bt905 => ((impl_ExprOf.f bt905.1 bt905.2.1 bt905.2.2.1 bt905.2.2.2.1 bt905.2.2.2.2 t845 t848 t851).bind fun t912 => (some (t904 == (wrap64 (-t912))))))) = some r := H
       have A72 := z0 A720
       clear A720
       replace H := Option.bind_eq_some_iff.mp H
       obtain ⟨t904, A730, H⟩ := H
       replace H : ((laws_wqTwo.f 4 t856 t857 t858 t859 t860 t838 t839 t840 t841 t842).bind fun bt905 => ((impl_ExprOf.f bt905.1 bt905.2.1 bt905.2.2.1 bt905.2.2.2.1 bt905.2.2.2.2 t845 t848 t851).bind fun t912 => (some (t904 == (wrap64 (-t912)))))) = some r := H
       have A73 := z0 A730
       clear A730
       replace H := Option.bind_eq_some_iff.mp H
       obtain ⟨⟨t905, t906, t907, t908, t909⟩, A740, H⟩ := H
       replace H : ((impl_ExprOf.f t905 t906 t907 t908 t909 t845 t848 t851).bind fun t912 => (some (t904 == (wrap64 (-t912))))) = some r := H
       have A74 := z0 A740
       clear A740
       replace H := Option.bind_eq_some_iff.mp H
       obtain ⟨t912, A750, H⟩ := H
       replace H : (some (t904 == (wrap64 (-t912)))) = some r := H
       have A75 := z0 A750
       clear A750
       obtain rfl := Option.some.inj H
       have hnb76 := NB854_855.out
       have hnc76 := NB855_854.out
       have hnb77 := NB854_872.out
       have hnc77 := NB872_854.out
       have hnb78 := NB854_873.out
       have hnc78 := NB873_854.out
       obtain ⟨hcz79_0, hcz79_1, hcz79_2, hcz79_3, hcz79_4, hfz79_0, hfz79_1, hfz79_2, hfz79_3, hfz79_4⟩ := cel5 BK854.out
       have hnb80 := NB872_855.out
       have hnc80 := NB855_872.out
       have hnb81 := NB872_873.out
       have hnc81 := NB873_872.out
       obtain ⟨hcz82_0, hcz82_1, hcz82_2, hcz82_3, hcz82_4, hfz82_0, hfz82_1, hfz82_2, hfz82_3, hfz82_4⟩ := cel5 BK872.out
       try go_wp2_with (first | ((with_reducible refine gate_callee (f := 37) rfl ?_); refine goesL_ (some 63) rfl rfl Try.func37 (by kernel_rfl) rfl #[.int .i64 4, .agg #[.int .i64 t838, .int .i64 t839, .int .i64 t840, .int .i64 t841, .slice Ao13 t842.length co13], .agg #[.int .i64 t856, .int .i64 t857, .int .i64 t858, .int .i64 t859, .slice Ao25 t860.length co25]] rfl argx ?_; (with_reducible refine (laws_wqTwo.calls 4 t838 t839 t840 t841 (fun k_ => (nB k_ (.slice Ao34 y874.length co34) ∧ (nB k_ (.slice Ao14 t845.length co14) ∧ (nB k_ (.slice Ao16 t848.length co16) ∧ (nB k_ (.slice Ao17 t851.length co17) ∧ (nB k_ (.slice Ao25 t860.length co25) ∧ (nB k_ (.slice Ao26 t863.length co26) ∧ (nB k_ (.slice Ao30 t866.length co30) ∧ (nB k_ (.slice Ao31 t869.length co31) ∧ (k_ ≠ gb854 ∧ (k_ ≠ gb855 ∧ (k_ ≠ gb872 ∧ k_ ≠ gb873)))))))))))) _ _ t842 t856 t857 t858 t859 (fun k_ => (nB k_ (.slice Ao34 y874.length co34) ∧ (nB k_ (.slice Ao13 t842.length co13) ∧ (nB k_ (.slice Ao14 t845.length co14) ∧ (nB k_ (.slice Ao16 t848.length co16) ∧ (nB k_ (.slice Ao17 t851.length co17) ∧ (nB k_ (.slice Ao26 t863.length co26) ∧ (nB k_ (.slice Ao30 t866.length co30) ∧ (nB k_ (.slice Ao31 t869.length co31) ∧ (k_ ≠ gb854 ∧ (k_ ≠ gb855 ∧ (k_ ≠ gb872 ∧ k_ ≠ gb873)))))))))))) _ _ t860 t896 t897 t898 t899 t900 _ ?side1 ?side2 A72.out).mono ?_); (case side1 => exact Kd.N_V (HO_855004.out)); (case side2 => exact Kd.N_V (HO_873004.out)); rintro e w83 ⟨v901, rfl, ho0, hb⟩; refine ⟨_, rfl, ?_⟩; have n0_ := z0 (Kd.R_below (mR HO_32.out) hb); have n1_ := z0 (Kd.N_elder' (mN HO_855004.out) (by first | exact Kd.N_base ho0 | exact Kd.R_base ho0) hb); have n2_ := z0 (Kd.R_below (mR HO_856000.out) hb); have n3_ := z0 (Kd.R_below (mR HO_856001.out) hb); have n4_ := z0 (Kd.R_below (mR HO_856002.out) hb); have n5_ := z0 (Kd.N_elder' (mN HO_873004.out) (by first | exact Kd.N_base ho0 | exact Kd.R_base ho0) hb); have n6_ := z0 (Kd.R_below (mR HO_874000.out) hb); have n7_ := z0 (Kd.R_below (mR HO_874001.out) hb); have n8_ := z0 (Kd.R_below (mR HO_874002.out) hb); have n9_ := z0 (Kd.N_lower (Kd.N_mono (ok' := fun k_ => nB k_ (.slice Ao34 y874.length co34) ∧ nB k_ (.slice Ao14 t845.length co14) ∧ nB k_ (.slice Ao16 t848.length co16) ∧ nB k_ (.slice Ao17 t851.length co17) ∧ nB k_ (.slice Ao26 t863.length co26) ∧ nB k_ (.slice Ao30 t866.length co30) ∧ nB k_ (.slice Ao31 t869.length co31) ∧ k_ ≠ gb854 ∧ k_ ≠ gb855 ∧ k_ ≠ gb872 ∧ k_ ≠ gb873) ho0 (fun k_ hk_ => ⟨Or.elim hk_ (fun hs_ => Or.elim hs_ (fun hs_ => hs_.1) (fun hs_ => hs_.1)) (fun hn_ => (Kd.fresh' (Kd.R_lt (mR HO_32.out)) k_ hn_)), Or.elim hk_ (fun hs_ => Or.elim hs_ (fun hs_ => hs_.2.1) (fun hs_ => hs_.2.2.1)) (fun hn_ => (Kd.fresh' (Kd.R_lt (mR HO_856000.out)) k_ hn_)), Or.elim hk_ (fun hs_ => Or.elim hs_ (fun hs_ => hs_.2.2.1) (fun hs_ => hs_.2.2.2.1)) (fun hn_ => (Kd.fresh' (Kd.R_lt (mR HO_856001.out)) k_ hn_)), Or.elim hk_ (fun hs_ => Or.elim hs_ (fun hs_ => hs_.2.2.2.1) (fun hs_ => hs_.2.2.2.2.1)) (fun hn_ => (Kd.fresh' (Kd.R_lt (mR HO_856002.out)) k_ hn_)), Or.elim hk_ (fun hs_ => Or.elim hs_ (fun hs_ => hs_.2.2.2.2.2.1) (fun hs_ => hs_.2.2.2.2.2.1)) (fun hn_ => (Kd.fresh' (Kd.R_lt (mR HO_874000.out)) k_ hn_)), Or.elim hk_ (fun hs_ => Or.elim hs_ (fun hs_ => hs_.2.2.2.2.2.2.1) (fun hs_ => hs_.2.2.2.2.2.2.1)) (fun hn_ => (Kd.fresh' (Kd.R_lt (mR HO_874001.out)) k_ hn_)), Or.elim hk_ (fun hs_ => Or.elim hs_ (fun hs_ => hs_.2.2.2.2.2.2.2.1) (fun hs_ => hs_.2.2.2.2.2.2.2.1)) (fun hn_ => (Kd.fresh' (Kd.R_lt (mR HO_874002.out)) k_ hn_)), Or.elim hk_ (fun hs_ => Or.elim hs_ (fun hs_ => hs_.2.2.2.2.2.2.2.2.1) (fun hs_ => hs_.2.2.2.2.2.2.2.2.1)) (fun hn_ => (Kd.freshB (g := gb854) (o := .cells #[.int .i64 t838, .int .i64 t839, .int .i64 t840, .int .i64 t841, .slice Ao13 t842.length co13] 32 (0, 0)) (mK BK854.out) k_ hn_)), Or.elim hk_ (fun hs_ => Or.elim hs_ (fun hs_ => hs_.2.2.2.2.2.2.2.2.2.1) (fun hs_ => hs_.2.2.2.2.2.2.2.2.2.1)) (fun hn_ => (Kd.freshB (g := gb855) (o := .cells #[.slice Ao14 t845.length co14, .slice Ao16 t848.length co16, .slice Ao17 t851.length co17] 44 (0, 0)) (mK BK855.out) k_ hn_)), Or.elim hk_ (fun hs_ => Or.elim hs_ (fun hs_ => hs_.2.2.2.2.2.2.2.2.2.2.1) (fun hs_ => hs_.2.2.2.2.2.2.2.2.2.2.1)) (fun hn_ => (Kd.freshB (g := gb872) (o := .cells #[.int .i64 t856, .int .i64 t857, .int .i64 t858, .int .i64 t859, .slice Ao25 t860.length co25] 32 (0, 0)) (mK BK872.out) k_ hn_)), Or.elim hk_ (fun hs_ => Or.elim hs_ (fun hs_ => hs_.2.2.2.2.2.2.2.2.2.2.2) (fun hs_ => hs_.2.2.2.2.2.2.2.2.2.2.2)) (fun hn_ => (Kd.freshB (g := gb873) (o := .cells #[.slice Ao26 t863.length co26, .slice Ao30 t866.length co30, .slice Ao31 t869.length co31] 44 (0, 0)) (mK BK873.out) k_ hn_))⟩)) (below_size (mB HB.out))); have n10_ := z0 (blk_below (g := gb854) (o := .cells #[.int .i64 t838, .int .i64 t839, .int .i64 t840, .int .i64 t841, .slice Ao13 t842.length co13] 32 (0, 0)) (mK BK854.out) hb); have n11_ := z0 (blk_below (g := gb855) (o := .cells #[.slice Ao14 t845.length co14, .slice Ao16 t848.length co16, .slice Ao17 t851.length co17] 44 (0, 0)) (mK BK855.out) hb); have n12_ := z0 (blk_below (g := gb872) (o := .cells #[.int .i64 t856, .int .i64 t857, .int .i64 t858, .int .i64 t859, .slice Ao25 t860.length co25] 32 (0, 0)) (mK BK872.out) hb); have n13_ := z0 (blk_below (g := gb873) (o := .cells #[.slice Ao26 t863.length co26, .slice Ao30 t866.length co30, .slice Ao31 t869.length co31] 44 (0, 0)) (mK BK873.out) hb); have n14_ := z0 (below_step (mB HB.out) hb); clear HO_32; clear HO_855004; clear HO_856000; clear HO_856001; clear HO_856002; clear HO_873004; clear HO_874000; clear HO_874001; clear HO_874002; clear BK854; clear BK855; clear BK872; clear BK873; clear HB; have HO_32 := n0_; have HO_855004 := n1_; have HO_856000 := n2_; have HO_856001 := n3_; have HO_856002 := n4_; have HO_873004 := n5_; have HO_874000 := n6_; have HO_874001 := n7_; have HO_874002 := n8_; have HO902 := n9_; have BK854 := n10_; have BK855 := n11_; have BK872 := n12_; have BK873 := n13_; have HB := n14_; clear n0_ n1_ n2_ n3_ n4_ n5_ n6_ n7_ n8_ n9_ n10_ n11_ n12_ n13_ n14_; (try clear hb); (try clear hb2); (try clear hk); (try clear hi); (try clear ho0)) | ((with_reducible refine gate_dst (N := 13) rfl ?_); (try (refine gate_guard (by rfl) ?_; dsimp only)); refine box_event ?hg (N := 13) ?hd (cs := #[.int .i64 0, .int .i64 0, .int .i64 0, .int .i64 0, .slice none 0 0]) (t := 32) ?hr ?_; (case hd => rfl); (case hg => rfl); (case hr => first | (go_simp; done) | (go_simp; rfl)); intro gb903 hg w84 hbox hb; have n0_ := z0 (Kd.R_below (mR HO_32.out) hb); have n1_ := z0 (Kd.N_below (Kd.N_elderB (mN HO_855004.out) gb903 (Nat.le_of_eq hg.symm)) hb); have n2_ := z0 (Kd.R_below (mR HO_856000.out) hb); have n3_ := z0 (Kd.R_below (mR HO_856001.out) hb); have n4_ := z0 (Kd.R_below (mR HO_856002.out) hb); have n5_ := z0 (Kd.N_below (Kd.N_elderB (mN HO_873004.out) gb903 (Nat.le_of_eq hg.symm)) hb); have n6_ := z0 (Kd.R_below (mR HO_874000.out) hb); have n7_ := z0 (Kd.R_below (mR HO_874001.out) hb); have n8_ := z0 (Kd.R_below (mR HO_874002.out) hb); have n9_ := z0 (Kd.N_below (Kd.N_elderB (mN HO902.out) gb903 (Nat.le_of_eq hg.symm)) hb); have n10_ := z0 (blk_below (g := gb854) (o := .cells #[.int .i64 t838, .int .i64 t839, .int .i64 t840, .int .i64 t841, .slice Ao13 t842.length co13] 32 (0, 0)) (mK BK854.out) hb); have n11_ := z0 (blk_below (g := gb855) (o := .cells #[.slice Ao14 t845.length co14, .slice Ao16 t848.length co16, .slice Ao17 t851.length co17] 44 (0, 0)) (mK BK855.out) hb); have n12_ := z0 (blk_below (g := gb872) (o := .cells #[.int .i64 t856, .int .i64 t857, .int .i64 t858, .int .i64 t859, .slice Ao25 t860.length co25] 32 (0, 0)) (mK BK872.out) hb); have n13_ := z0 (blk_below (g := gb873) (o := .cells #[.slice Ao26 t863.length co26, .slice Ao30 t866.length co30, .slice Ao31 t869.length co31] 44 (0, 0)) (mK BK873.out) hb); have n14_ := z0 (below_step (mB HB.out) hb); have n15_ := z0 (hbox); have n16_ := z0 ((by rw [hg]; exact (below_size (mB HB.out)) : w.heap.size ≤ gb903)); have n17_ := z0 ((by rw [hg]; exact (below_size (mB HB.out)) : w.heap.size ≤ gb903)); have n18_ := z0 ((by rw [hg]; exact Nat.ne_of_lt (blk_lt (g := gb854) (o := .cells #[.int .i64 t838, .int .i64 t839, .int .i64 t840, .int .i64 t841, .slice Ao13 t842.length co13] 32 (0, 0)) (mK BK854.out)) : gb854 ≠ gb903)); have n19_ := z0 ((by rw [hg]; exact Nat.ne_of_gt (blk_lt (g := gb854) (o := .cells #[.int .i64 t838, .int .i64 t839, .int .i64 t840, .int .i64 t841, .slice Ao13 t842.length co13] 32 (0, 0)) (mK BK854.out)) : gb903 ≠ gb854)); have n20_ := z0 ((by rw [hg]; exact Nat.ne_of_lt (blk_lt (g := gb855) (o := .cells #[.slice Ao14 t845.length co14, .slice Ao16 t848.length co16, .slice Ao17 t851.length co17] 44 (0, 0)) (mK BK855.out)) : gb855 ≠ gb903)); have n21_ := z0 ((by rw [hg]; exact Nat.ne_of_gt (blk_lt (g := gb855) (o := .cells #[.slice Ao14 t845.length co14, .slice Ao16 t848.length co16, .slice Ao17 t851.length co17] 44 (0, 0)) (mK BK855.out)) : gb903 ≠ gb855)); have n22_ := z0 ((by rw [hg]; exact Nat.ne_of_lt (blk_lt (g := gb872) (o := .cells #[.int .i64 t856, .int .i64 t857, .int .i64 t858, .int .i64 t859, .slice Ao25 t860.length co25] 32 (0, 0)) (mK BK872.out)) : gb872 ≠ gb903)); have n23_ := z0 ((by rw [hg]; exact Nat.ne_of_gt (blk_lt (g := gb872) (o := .cells #[.int .i64 t856, .int .i64 t857, .int .i64 t858, .int .i64 t859, .slice Ao25 t860.length co25] 32 (0, 0)) (mK BK872.out)) : gb903 ≠ gb872)); have n24_ := z0 ((by rw [hg]; exact Nat.ne_of_lt (blk_lt (g := gb873) (o := .cells #[.slice Ao26 t863.length co26, .slice Ao30 t866.length co30, .slice Ao31 t869.length co31] 44 (0, 0)) (mK BK873.out)) : gb873 ≠ gb903)); have n25_ := z0 ((by rw [hg]; exact Nat.ne_of_gt (blk_lt (g := gb873) (o := .cells #[.slice Ao26 t863.length co26, .slice Ao30 t866.length co30, .slice Ao31 t869.length co31] 44 (0, 0)) (mK BK873.out)) : gb903 ≠ gb873)); clear HO_32; clear HO_855004; clear HO_856000; clear HO_856001; clear HO_856002; clear HO_873004; clear HO_874000; clear HO_874001; clear HO_874002; clear HO902; clear BK854; clear BK855; clear BK872; clear BK873; clear HB; have HO_32 := n0_; have HO_855004 := n1_; have HO_856000 := n2_; have HO_856001 := n3_; have HO_856002 := n4_; have HO_873004 := n5_; have HO_874000 := n6_; have HO_874001 := n7_; have HO_874002 := n8_; have HO902 := n9_; have BK854 := n10_; have BK855 := n11_; have BK872 := n12_; have BK873 := n13_; have HB := n14_; have BK903 := n15_; have GW903 := n16_; have GE903 := n17_; have NB854_903 := n18_; have NB903_854 := n19_; have NB855_903 := n20_; have NB903_855 := n21_; have NB872_903 := n22_; have NB903_872 := n23_; have NB873_903 := n24_; have NB903_873 := n25_; clear n0_ n1_ n2_ n3_ n4_ n5_ n6_ n7_ n8_ n9_ n10_ n11_ n12_ n13_ n14_ n15_ n16_ n17_ n18_ n19_ n20_ n21_ n22_ n23_ n24_ n25_; clear hb hbox hg; have hnb85 := NB903_854.out; have hnc85 := NB854_903.out; have hnb86 := NB903_855.out; have hnc86 := NB855_903.out; have hnb87 := NB903_872.out; have hnc87 := NB872_903.out; have hnb88 := NB903_873.out; have hnc88 := NB873_903.out; obtain ⟨hcz89_0, hcz89_1, hcz89_2, hcz89_3, hcz89_4, hfz89_0, hfz89_1, hfz89_2, hfz89_3, hfz89_4⟩ := cel5 BK903.out; obtain ⟨Ao90, co90, eo90⟩ := Kd.N_slice HO902.out; subst eo90))
       have n0_ : Aside0 (Kd.R (Kd.int .i64) 3 (((((w84.setCell ⟨gb903, 0, none⟩ (.int .i64 t896)).setCell ⟨gb903, 1, none⟩ (.int .i64 t897)).setCell ⟨gb903, 2, none⟩ (.int .i64 t898)).setCell ⟨gb903, 3, none⟩ (.int .i64 t899)).setCell ⟨gb903, 4, none⟩ (.slice Ao90 t900.length co90)) w.heap.size (fun k_ => nB k_ (.slice Ao14 t845.length co14) ∧ nB k_ (.slice Ao16 t848.length co16) ∧ nB k_ (.slice Ao17 t851.length co17) ∧ nB k_ (.slice Ao26 t863.length co26) ∧ nB k_ (.slice Ao30 t866.length co30) ∧ nB k_ (.slice Ao31 t869.length co31)) (.slice Ao34 y874.length co34) y874) := ⟨by (with_reducible repeat (first | apply Kd.R_alloc | apply Kd.R_drewN | apply Kd.R_drew)); exact Kd.R_mono (Kd.R_far (p := ⟨gb903, 4, none⟩) (Kd.R_far (p := ⟨gb903, 3, none⟩) (Kd.R_far (p := ⟨gb903, 2, none⟩) (Kd.R_far (p := ⟨gb903, 1, none⟩) (Kd.R_far (p := ⟨gb903, 0, none⟩) (Kd.R_types HO_32.out BK903.out (by decide)) (fun _ hk => hk.2) (.int .i64 t896)) (fun _ hk => hk.2) (.int .i64 t897)) (fun _ hk => hk.2) (.int .i64 t898)) (fun _ hk => hk.2) (.int .i64 t899)) (fun _ hk => hk.2) (.slice Ao90 t900.length co90)) (fun _ hk => ⟨hk.1.1, ⟨hk.1.2.1, ⟨hk.1.2.2.1, ⟨hk.1.2.2.2.1, ⟨hk.1.2.2.2.2.1, hk.1.2.2.2.2.2⟩⟩⟩⟩⟩)⟩
       have n1_ : Aside0 (Kd.N k32 32 (((((w84.setCell ⟨gb903, 0, none⟩ (.int .i64 t896)).setCell ⟨gb903, 1, none⟩ (.int .i64 t897)).setCell ⟨gb903, 2, none⟩ (.int .i64 t898)).setCell ⟨gb903, 3, none⟩ (.int .i64 t899)).setCell ⟨gb903, 4, none⟩ (.slice Ao90 t900.length co90)) w.heap.size (fun k_ => nB k_ (.slice Ao34 y874.length co34) ∧ nB k_ (.slice Ao14 t845.length co14) ∧ nB k_ (.slice Ao16 t848.length co16) ∧ nB k_ (.slice Ao17 t851.length co17) ∧ nB k_ (.slice Ao25 t860.length co25) ∧ nB k_ (.slice Ao26 t863.length co26) ∧ nB k_ (.slice Ao30 t866.length co30) ∧ nB k_ (.slice Ao31 t869.length co31) ∧ nB k_ (.slice Ao90 t900.length co90) ∧ k_ ≠ gb854 ∧ k_ ≠ gb855 ∧ k_ ≠ gb872 ∧ k_ ≠ gb873 ∧ k_ ≠ gb903) (.slice Ao13 t842.length co13) t842) := ⟨by (with_reducible repeat (first | apply Kd.N_alloc | apply Kd.N_drewN | apply Kd.N_drew)); exact Kd.N_mono (Kd.N_far (p := ⟨gb903, 4, none⟩) (Kd.N_far (p := ⟨gb903, 3, none⟩) (Kd.N_far (p := ⟨gb903, 2, none⟩) (Kd.N_far (p := ⟨gb903, 1, none⟩) (Kd.N_far (p := ⟨gb903, 0, none⟩) (Kd.N_mono HO_855004.out (fun k_ hk => (⟨hk, hk.2⟩ : _ ∧ k_ ≠ gb903))) (fun _ hk => hk.2) (.int .i64 t896)) (fun _ hk => hk.2) (.int .i64 t897)) (fun _ hk => hk.2) (.int .i64 t898)) (fun _ hk => hk.2) (.int .i64 t899)) (fun _ hk => hk.2) (.slice Ao90 t900.length co90)) (fun _ hk => ⟨hk.1.1.1.1, ⟨hk.1.1.1.2.1, ⟨hk.1.1.1.2.2.1, ⟨hk.1.1.1.2.2.2.1, ⟨hk.1.1.1.2.2.2.2.1, ⟨hk.1.1.1.2.2.2.2.2.1, ⟨hk.1.1.1.2.2.2.2.2.2.1, ⟨hk.1.1.1.2.2.2.2.2.2.2.1, ⟨hk.1.1.2, ⟨hk.1.1.1.2.2.2.2.2.2.2.2.1, ⟨hk.1.1.1.2.2.2.2.2.2.2.2.2.1, ⟨hk.1.1.1.2.2.2.2.2.2.2.2.2.2.1, ⟨hk.1.1.1.2.2.2.2.2.2.2.2.2.2.2, hk.1.2⟩⟩⟩⟩⟩⟩⟩⟩⟩⟩⟩⟩⟩)⟩
       have n2_ : Aside0 (Kd.R (Kd.int .i64) 3 (((((w84.setCell ⟨gb903, 0, none⟩ (.int .i64 t896)).setCell ⟨gb903, 1, none⟩ (.int .i64 t897)).setCell ⟨gb903, 2, none⟩ (.int .i64 t898)).setCell ⟨gb903, 3, none⟩ (.int .i64 t899)).setCell ⟨gb903, 4, none⟩ (.slice Ao90 t900.length co90)) w.heap.size (fun k_ => nB k_ (.slice Ao34 y874.length co34) ∧ nB k_ (.slice Ao16 t848.length co16) ∧ nB k_ (.slice Ao17 t851.length co17) ∧ nB k_ (.slice Ao26 t863.length co26) ∧ nB k_ (.slice Ao30 t866.length co30) ∧ nB k_ (.slice Ao31 t869.length co31)) (.slice Ao14 t845.length co14) t845) := ⟨by (with_reducible repeat (first | apply Kd.R_alloc | apply Kd.R_drewN | apply Kd.R_drew)); exact Kd.R_mono (Kd.R_far (p := ⟨gb903, 4, none⟩) (Kd.R_far (p := ⟨gb903, 3, none⟩) (Kd.R_far (p := ⟨gb903, 2, none⟩) (Kd.R_far (p := ⟨gb903, 1, none⟩) (Kd.R_far (p := ⟨gb903, 0, none⟩) (Kd.R_types HO_856000.out BK903.out (by decide)) (fun _ hk => hk.2) (.int .i64 t896)) (fun _ hk => hk.2) (.int .i64 t897)) (fun _ hk => hk.2) (.int .i64 t898)) (fun _ hk => hk.2) (.int .i64 t899)) (fun _ hk => hk.2) (.slice Ao90 t900.length co90)) (fun _ hk => ⟨hk.1.1, ⟨hk.1.2.1, ⟨hk.1.2.2.1, ⟨hk.1.2.2.2.1, ⟨hk.1.2.2.2.2.1, hk.1.2.2.2.2.2⟩⟩⟩⟩⟩)⟩
       have n3_ : Aside0 (Kd.R (Kd.int .i64) 3 (((((w84.setCell ⟨gb903, 0, none⟩ (.int .i64 t896)).setCell ⟨gb903, 1, none⟩ (.int .i64 t897)).setCell ⟨gb903, 2, none⟩ (.int .i64 t898)).setCell ⟨gb903, 3, none⟩ (.int .i64 t899)).setCell ⟨gb903, 4, none⟩ (.slice Ao90 t900.length co90)) w.heap.size (fun k_ => nB k_ (.slice Ao34 y874.length co34) ∧ nB k_ (.slice Ao14 t845.length co14) ∧ nB k_ (.slice Ao17 t851.length co17) ∧ nB k_ (.slice Ao26 t863.length co26) ∧ nB k_ (.slice Ao30 t866.length co30) ∧ nB k_ (.slice Ao31 t869.length co31)) (.slice Ao16 t848.length co16) t848) := ⟨by (with_reducible repeat (first | apply Kd.R_alloc | apply Kd.R_drewN | apply Kd.R_drew)); exact Kd.R_mono (Kd.R_far (p := ⟨gb903, 4, none⟩) (Kd.R_far (p := ⟨gb903, 3, none⟩) (Kd.R_far (p := ⟨gb903, 2, none⟩) (Kd.R_far (p := ⟨gb903, 1, none⟩) (Kd.R_far (p := ⟨gb903, 0, none⟩) (Kd.R_types HO_856001.out BK903.out (by decide)) (fun _ hk => hk.2) (.int .i64 t896)) (fun _ hk => hk.2) (.int .i64 t897)) (fun _ hk => hk.2) (.int .i64 t898)) (fun _ hk => hk.2) (.int .i64 t899)) (fun _ hk => hk.2) (.slice Ao90 t900.length co90)) (fun _ hk => ⟨hk.1.1, ⟨hk.1.2.1, ⟨hk.1.2.2.1, ⟨hk.1.2.2.2.1, ⟨hk.1.2.2.2.2.1, hk.1.2.2.2.2.2⟩⟩⟩⟩⟩)⟩
       have n4_ : Aside0 (Kd.R (Kd.int .i64) 3 (((((w84.setCell ⟨gb903, 0, none⟩ (.int .i64 t896)).setCell ⟨gb903, 1, none⟩ (.int .i64 t897)).setCell ⟨gb903, 2, none⟩ (.int .i64 t898)).setCell ⟨gb903, 3, none⟩ (.int .i64 t899)).setCell ⟨gb903, 4, none⟩ (.slice Ao90 t900.length co90)) w.heap.size (fun k_ => nB k_ (.slice Ao34 y874.length co34) ∧ nB k_ (.slice Ao14 t845.length co14) ∧ nB k_ (.slice Ao16 t848.length co16) ∧ nB k_ (.slice Ao26 t863.length co26) ∧ nB k_ (.slice Ao30 t866.length co30) ∧ nB k_ (.slice Ao31 t869.length co31)) (.slice Ao17 t851.length co17) t851) := ⟨by (with_reducible repeat (first | apply Kd.R_alloc | apply Kd.R_drewN | apply Kd.R_drew)); exact Kd.R_mono (Kd.R_far (p := ⟨gb903, 4, none⟩) (Kd.R_far (p := ⟨gb903, 3, none⟩) (Kd.R_far (p := ⟨gb903, 2, none⟩) (Kd.R_far (p := ⟨gb903, 1, none⟩) (Kd.R_far (p := ⟨gb903, 0, none⟩) (Kd.R_types HO_856002.out BK903.out (by decide)) (fun _ hk => hk.2) (.int .i64 t896)) (fun _ hk => hk.2) (.int .i64 t897)) (fun _ hk => hk.2) (.int .i64 t898)) (fun _ hk => hk.2) (.int .i64 t899)) (fun _ hk => hk.2) (.slice Ao90 t900.length co90)) (fun _ hk => ⟨hk.1.1, ⟨hk.1.2.1, ⟨hk.1.2.2.1, ⟨hk.1.2.2.2.1, ⟨hk.1.2.2.2.2.1, hk.1.2.2.2.2.2⟩⟩⟩⟩⟩)⟩
       have n5_ : Aside0 (Kd.N k32 32 (((((w84.setCell ⟨gb903, 0, none⟩ (.int .i64 t896)).setCell ⟨gb903, 1, none⟩ (.int .i64 t897)).setCell ⟨gb903, 2, none⟩ (.int .i64 t898)).setCell ⟨gb903, 3, none⟩ (.int .i64 t899)).setCell ⟨gb903, 4, none⟩ (.slice Ao90 t900.length co90)) w.heap.size (fun k_ => nB k_ (.slice Ao34 y874.length co34) ∧ nB k_ (.slice Ao13 t842.length co13) ∧ nB k_ (.slice Ao14 t845.length co14) ∧ nB k_ (.slice Ao16 t848.length co16) ∧ nB k_ (.slice Ao17 t851.length co17) ∧ nB k_ (.slice Ao26 t863.length co26) ∧ nB k_ (.slice Ao30 t866.length co30) ∧ nB k_ (.slice Ao31 t869.length co31) ∧ nB k_ (.slice Ao90 t900.length co90) ∧ k_ ≠ gb854 ∧ k_ ≠ gb855 ∧ k_ ≠ gb872 ∧ k_ ≠ gb873 ∧ k_ ≠ gb903) (.slice Ao25 t860.length co25) t860) := ⟨by (with_reducible repeat (first | apply Kd.N_alloc | apply Kd.N_drewN | apply Kd.N_drew)); exact Kd.N_mono (Kd.N_far (p := ⟨gb903, 4, none⟩) (Kd.N_far (p := ⟨gb903, 3, none⟩) (Kd.N_far (p := ⟨gb903, 2, none⟩) (Kd.N_far (p := ⟨gb903, 1, none⟩) (Kd.N_far (p := ⟨gb903, 0, none⟩) (Kd.N_mono HO_873004.out (fun k_ hk => (⟨hk, hk.2⟩ : _ ∧ k_ ≠ gb903))) (fun _ hk => hk.2) (.int .i64 t896)) (fun _ hk => hk.2) (.int .i64 t897)) (fun _ hk => hk.2) (.int .i64 t898)) (fun _ hk => hk.2) (.int .i64 t899)) (fun _ hk => hk.2) (.slice Ao90 t900.length co90)) (fun _ hk => ⟨hk.1.1.1.1, ⟨hk.1.1.1.2.1, ⟨hk.1.1.1.2.2.1, ⟨hk.1.1.1.2.2.2.1, ⟨hk.1.1.1.2.2.2.2.1, ⟨hk.1.1.1.2.2.2.2.2.1, ⟨hk.1.1.1.2.2.2.2.2.2.1, ⟨hk.1.1.1.2.2.2.2.2.2.2.1, ⟨hk.1.1.2, ⟨hk.1.1.1.2.2.2.2.2.2.2.2.1, ⟨hk.1.1.1.2.2.2.2.2.2.2.2.2.1, ⟨hk.1.1.1.2.2.2.2.2.2.2.2.2.2.1, ⟨hk.1.1.1.2.2.2.2.2.2.2.2.2.2.2, hk.1.2⟩⟩⟩⟩⟩⟩⟩⟩⟩⟩⟩⟩⟩)⟩
       have n6_ : Aside0 (Kd.R (Kd.int .i64) 3 (((((w84.setCell ⟨gb903, 0, none⟩ (.int .i64 t896)).setCell ⟨gb903, 1, none⟩ (.int .i64 t897)).setCell ⟨gb903, 2, none⟩ (.int .i64 t898)).setCell ⟨gb903, 3, none⟩ (.int .i64 t899)).setCell ⟨gb903, 4, none⟩ (.slice Ao90 t900.length co90)) w.heap.size (fun k_ => nB k_ (.slice Ao34 y874.length co34) ∧ nB k_ (.slice Ao14 t845.length co14) ∧ nB k_ (.slice Ao16 t848.length co16) ∧ nB k_ (.slice Ao17 t851.length co17) ∧ nB k_ (.slice Ao30 t866.length co30) ∧ nB k_ (.slice Ao31 t869.length co31)) (.slice Ao26 t863.length co26) t863) := ⟨by (with_reducible repeat (first | apply Kd.R_alloc | apply Kd.R_drewN | apply Kd.R_drew)); exact Kd.R_mono (Kd.R_far (p := ⟨gb903, 4, none⟩) (Kd.R_far (p := ⟨gb903, 3, none⟩) (Kd.R_far (p := ⟨gb903, 2, none⟩) (Kd.R_far (p := ⟨gb903, 1, none⟩) (Kd.R_far (p := ⟨gb903, 0, none⟩) (Kd.R_types HO_874000.out BK903.out (by decide)) (fun _ hk => hk.2) (.int .i64 t896)) (fun _ hk => hk.2) (.int .i64 t897)) (fun _ hk => hk.2) (.int .i64 t898)) (fun _ hk => hk.2) (.int .i64 t899)) (fun _ hk => hk.2) (.slice Ao90 t900.length co90)) (fun _ hk => ⟨hk.1.1, ⟨hk.1.2.1, ⟨hk.1.2.2.1, ⟨hk.1.2.2.2.1, ⟨hk.1.2.2.2.2.1, hk.1.2.2.2.2.2⟩⟩⟩⟩⟩)⟩
       have n7_ : Aside0 (Kd.R (Kd.int .i64) 3 (((((w84.setCell ⟨gb903, 0, none⟩ (.int .i64 t896)).setCell ⟨gb903, 1, none⟩ (.int .i64 t897)).setCell ⟨gb903, 2, none⟩ (.int .i64 t898)).setCell ⟨gb903, 3, none⟩ (.int .i64 t899)).setCell ⟨gb903, 4, none⟩ (.slice Ao90 t900.length co90)) w.heap.size (fun k_ => nB k_ (.slice Ao34 y874.length co34) ∧ nB k_ (.slice Ao14 t845.length co14) ∧ nB k_ (.slice Ao16 t848.length co16) ∧ nB k_ (.slice Ao17 t851.length co17) ∧ nB k_ (.slice Ao26 t863.length co26) ∧ nB k_ (.slice Ao31 t869.length co31)) (.slice Ao30 t866.length co30) t866) := ⟨by (with_reducible repeat (first | apply Kd.R_alloc | apply Kd.R_drewN | apply Kd.R_drew)); exact Kd.R_mono (Kd.R_far (p := ⟨gb903, 4, none⟩) (Kd.R_far (p := ⟨gb903, 3, none⟩) (Kd.R_far (p := ⟨gb903, 2, none⟩) (Kd.R_far (p := ⟨gb903, 1, none⟩) (Kd.R_far (p := ⟨gb903, 0, none⟩) (Kd.R_types HO_874001.out BK903.out (by decide)) (fun _ hk => hk.2) (.int .i64 t896)) (fun _ hk => hk.2) (.int .i64 t897)) (fun _ hk => hk.2) (.int .i64 t898)) (fun _ hk => hk.2) (.int .i64 t899)) (fun _ hk => hk.2) (.slice Ao90 t900.length co90)) (fun _ hk => ⟨hk.1.1, ⟨hk.1.2.1, ⟨hk.1.2.2.1, ⟨hk.1.2.2.2.1, ⟨hk.1.2.2.2.2.1, hk.1.2.2.2.2.2⟩⟩⟩⟩⟩)⟩
       have n8_ : Aside0 (Kd.R (Kd.int .i64) 3 (((((w84.setCell ⟨gb903, 0, none⟩ (.int .i64 t896)).setCell ⟨gb903, 1, none⟩ (.int .i64 t897)).setCell ⟨gb903, 2, none⟩ (.int .i64 t898)).setCell ⟨gb903, 3, none⟩ (.int .i64 t899)).setCell ⟨gb903, 4, none⟩ (.slice Ao90 t900.length co90)) w.heap.size (fun k_ => nB k_ (.slice Ao34 y874.length co34) ∧ nB k_ (.slice Ao14 t845.length co14) ∧ nB k_ (.slice Ao16 t848.length co16) ∧ nB k_ (.slice Ao17 t851.length co17) ∧ nB k_ (.slice Ao26 t863.length co26) ∧ nB k_ (.slice Ao30 t866.length co30)) (.slice Ao31 t869.length co31) t869) := ⟨by (with_reducible repeat (first | apply Kd.R_alloc | apply Kd.R_drewN | apply Kd.R_drew)); exact Kd.R_mono (Kd.R_far (p := ⟨gb903, 4, none⟩) (Kd.R_far (p := ⟨gb903, 3, none⟩) (Kd.R_far (p := ⟨gb903, 2, none⟩) (Kd.R_far (p := ⟨gb903, 1, none⟩) (Kd.R_far (p := ⟨gb903, 0, none⟩) (Kd.R_types HO_874002.out BK903.out (by decide)) (fun _ hk => hk.2) (.int .i64 t896)) (fun _ hk => hk.2) (.int .i64 t897)) (fun _ hk => hk.2) (.int .i64 t898)) (fun _ hk => hk.2) (.int .i64 t899)) (fun _ hk => hk.2) (.slice Ao90 t900.length co90)) (fun _ hk => ⟨hk.1.1, ⟨hk.1.2.1, ⟨hk.1.2.2.1, ⟨hk.1.2.2.2.1, ⟨hk.1.2.2.2.2.1, hk.1.2.2.2.2.2⟩⟩⟩⟩⟩)⟩
       have n9_ : Aside0 (Kd.N k32 32 (((((w84.setCell ⟨gb903, 0, none⟩ (.int .i64 t896)).setCell ⟨gb903, 1, none⟩ (.int .i64 t897)).setCell ⟨gb903, 2, none⟩ (.int .i64 t898)).setCell ⟨gb903, 3, none⟩ (.int .i64 t899)).setCell ⟨gb903, 4, none⟩ (.slice Ao90 t900.length co90)) w.heap.size (fun k_ => nB k_ (.slice Ao34 y874.length co34) ∧ nB k_ (.slice Ao14 t845.length co14) ∧ nB k_ (.slice Ao16 t848.length co16) ∧ nB k_ (.slice Ao17 t851.length co17) ∧ nB k_ (.slice Ao26 t863.length co26) ∧ nB k_ (.slice Ao30 t866.length co30) ∧ nB k_ (.slice Ao31 t869.length co31) ∧ k_ ≠ gb854 ∧ k_ ≠ gb855 ∧ k_ ≠ gb872 ∧ k_ ≠ gb873 ∧ k_ ≠ gb903) (.slice Ao90 t900.length co90) t900) := ⟨by (with_reducible repeat (first | apply Kd.N_alloc | apply Kd.N_drewN | apply Kd.N_drew)); exact Kd.N_mono (Kd.N_far (p := ⟨gb903, 4, none⟩) (Kd.N_far (p := ⟨gb903, 3, none⟩) (Kd.N_far (p := ⟨gb903, 2, none⟩) (Kd.N_far (p := ⟨gb903, 1, none⟩) (Kd.N_far (p := ⟨gb903, 0, none⟩) (Kd.N_mono HO902.out (fun k_ hk => (⟨hk, hk.2⟩ : _ ∧ k_ ≠ gb903))) (fun _ hk => hk.2) (.int .i64 t896)) (fun _ hk => hk.2) (.int .i64 t897)) (fun _ hk => hk.2) (.int .i64 t898)) (fun _ hk => hk.2) (.int .i64 t899)) (fun _ hk => hk.2) (.slice Ao90 t900.length co90)) (fun _ hk => ⟨hk.1.1.1, ⟨hk.1.1.2.1, ⟨hk.1.1.2.2.1, ⟨hk.1.1.2.2.2.1, ⟨hk.1.1.2.2.2.2.1, ⟨hk.1.1.2.2.2.2.2.1, ⟨hk.1.1.2.2.2.2.2.2.1, ⟨hk.1.1.2.2.2.2.2.2.2.1, ⟨hk.1.1.2.2.2.2.2.2.2.2.1, ⟨hk.1.1.2.2.2.2.2.2.2.2.2.1, ⟨hk.1.1.2.2.2.2.2.2.2.2.2.2, hk.1.2⟩⟩⟩⟩⟩⟩⟩⟩⟩⟩⟩)⟩
       have n10_ : Aside0 ((((((w84.setCell ⟨gb903, 0, none⟩ (.int .i64 t896)).setCell ⟨gb903, 1, none⟩ (.int .i64 t897)).setCell ⟨gb903, 2, none⟩ (.int .i64 t898)).setCell ⟨gb903, 3, none⟩ (.int .i64 t899)).setCell ⟨gb903, 4, none⟩ (.slice Ao90 t900.length co90)).heap[gb854]? = some (.cells #[.int .i64 t838, .int .i64 t839, .int .i64 t840, .int .i64 t841, .slice Ao13 t842.length co13] 32 (0, 0))) := ⟨by (with_reducible repeat (first | refine blk_drewN ?_ _ | refine blk_drew ?_ | refine blk_alloc ?_ _)); refine blk_far ?_ NB854_903.out _; (with_reducible repeat (first | refine blk_drewN ?_ _ | refine blk_drew ?_ | refine blk_alloc ?_ _)); refine blk_far ?_ NB854_903.out _; (with_reducible repeat (first | refine blk_drewN ?_ _ | refine blk_drew ?_ | refine blk_alloc ?_ _)); refine blk_far ?_ NB854_903.out _; (with_reducible repeat (first | refine blk_drewN ?_ _ | refine blk_drew ?_ | refine blk_alloc ?_ _)); refine blk_far ?_ NB854_903.out _; (with_reducible repeat (first | refine blk_drewN ?_ _ | refine blk_drew ?_ | refine blk_alloc ?_ _)); refine blk_far ?_ NB854_903.out _; (with_reducible repeat (first | refine blk_drewN ?_ _ | refine blk_drew ?_ | refine blk_alloc ?_ _)); exact BK854.out⟩
       have n11_ : Aside0 ((((((w84.setCell ⟨gb903, 0, none⟩ (.int .i64 t896)).setCell ⟨gb903, 1, none⟩ (.int .i64 t897)).setCell ⟨gb903, 2, none⟩ (.int .i64 t898)).setCell ⟨gb903, 3, none⟩ (.int .i64 t899)).setCell ⟨gb903, 4, none⟩ (.slice Ao90 t900.length co90)).heap[gb855]? = some (.cells #[.slice Ao14 t845.length co14, .slice Ao16 t848.length co16, .slice Ao17 t851.length co17] 44 (0, 0))) := ⟨by (with_reducible repeat (first | refine blk_drewN ?_ _ | refine blk_drew ?_ | refine blk_alloc ?_ _)); refine blk_far ?_ NB855_903.out _; (with_reducible repeat (first | refine blk_drewN ?_ _ | refine blk_drew ?_ | refine blk_alloc ?_ _)); refine blk_far ?_ NB855_903.out _; (with_reducible repeat (first | refine blk_drewN ?_ _ | refine blk_drew ?_ | refine blk_alloc ?_ _)); refine blk_far ?_ NB855_903.out _; (with_reducible repeat (first | refine blk_drewN ?_ _ | refine blk_drew ?_ | refine blk_alloc ?_ _)); refine blk_far ?_ NB855_903.out _; (with_reducible repeat (first | refine blk_drewN ?_ _ | refine blk_drew ?_ | refine blk_alloc ?_ _)); refine blk_far ?_ NB855_903.out _; (with_reducible repeat (first | refine blk_drewN ?_ _ | refine blk_drew ?_ | refine blk_alloc ?_ _)); exact BK855.out⟩
       have n12_ : Aside0 ((((((w84.setCell ⟨gb903, 0, none⟩ (.int .i64 t896)).setCell ⟨gb903, 1, none⟩ (.int .i64 t897)).setCell ⟨gb903, 2, none⟩ (.int .i64 t898)).setCell ⟨gb903, 3, none⟩ (.int .i64 t899)).setCell ⟨gb903, 4, none⟩ (.slice Ao90 t900.length co90)).heap[gb872]? = some (.cells #[.int .i64 t856, .int .i64 t857, .int .i64 t858, .int .i64 t859, .slice Ao25 t860.length co25] 32 (0, 0))) := ⟨by (with_reducible repeat (first | refine blk_drewN ?_ _ | refine blk_drew ?_ | refine blk_alloc ?_ _)); refine blk_far ?_ NB872_903.out _; (with_reducible repeat (first | refine blk_drewN ?_ _ | refine blk_drew ?_ | refine blk_alloc ?_ _)); refine blk_far ?_ NB872_903.out _; (with_reducible repeat (first | refine blk_drewN ?_ _ | refine blk_drew ?_ | refine blk_alloc ?_ _)); refine blk_far ?_ NB872_903.out _; (with_reducible repeat (first | refine blk_drewN ?_ _ | refine blk_drew ?_ | refine blk_alloc ?_ _)); refine blk_far ?_ NB872_903.out _; (with_reducible repeat (first | refine blk_drewN ?_ _ | refine blk_drew ?_ | refine blk_alloc ?_ _)); refine blk_far ?_ NB872_903.out _; (with_reducible repeat (first | refine blk_drewN ?_ _ | refine blk_drew ?_ | refine blk_alloc ?_ _)); exact BK872.out⟩
       have n13_ : Aside0 ((((((w84.setCell ⟨gb903, 0, none⟩ (.int .i64 t896)).setCell ⟨gb903, 1, none⟩ (.int .i64 t897)).setCell ⟨gb903, 2, none⟩ (.int .i64 t898)).setCell ⟨gb903, 3, none⟩ (.int .i64 t899)).setCell ⟨gb903, 4, none⟩ (.slice Ao90 t900.length co90)).heap[gb873]? = some (.cells #[.slice Ao26 t863.length co26, .slice Ao30 t866.length co30, .slice Ao31 t869.length co31] 44 (0, 0))) := ⟨by (with_reducible repeat (first | refine blk_drewN ?_ _ | refine blk_drew ?_ | refine blk_alloc ?_ _)); refine blk_far ?_ NB873_903.out _; (with_reducible repeat (first | refine blk_drewN ?_ _ | refine blk_drew ?_ | refine blk_alloc ?_ _)); refine blk_far ?_ NB873_903.out _; (with_reducible repeat (first | refine blk_drewN ?_ _ | refine blk_drew ?_ | refine blk_alloc ?_ _)); refine blk_far ?_ NB873_903.out _; (with_reducible repeat (first | refine blk_drewN ?_ _ | refine blk_drew ?_ | refine blk_alloc ?_ _)); refine blk_far ?_ NB873_903.out _; (with_reducible repeat (first | refine blk_drewN ?_ _ | refine blk_drew ?_ | refine blk_alloc ?_ _)); refine blk_far ?_ NB873_903.out _; (with_reducible repeat (first | refine blk_drewN ?_ _ | refine blk_drew ?_ | refine blk_alloc ?_ _)); exact BK873.out⟩
       have n14_ : Aside0 ((((((w84.setCell ⟨gb903, 0, none⟩ (.int .i64 t896)).setCell ⟨gb903, 1, none⟩ (.int .i64 t897)).setCell ⟨gb903, 2, none⟩ (.int .i64 t898)).setCell ⟨gb903, 3, none⟩ (.int .i64 t899)).setCell ⟨gb903, 4, none⟩ (.slice Ao90 t900.length co90)).heap[gb903]? = some (.cells #[.int .i64 t896, .int .i64 t897, .int .i64 t898, .int .i64 t899, .slice Ao90 t900.length co90] 32 (0, 0))) := ⟨by (with_reducible repeat (first | refine blk_drewN ?_ _ | refine blk_drew ?_ | refine blk_alloc ?_ _)); refine blk_put (cs := #[.int .i64 t896, .int .i64 t897, .int .i64 t898, .int .i64 t899, .slice none 0 0]) ?_ 4 _ rfl; (with_reducible repeat (first | refine blk_drewN ?_ _ | refine blk_drew ?_ | refine blk_alloc ?_ _)); refine blk_put (cs := #[.int .i64 t896, .int .i64 t897, .int .i64 t898, .int .i64 0, .slice none 0 0]) ?_ 3 _ rfl; (with_reducible repeat (first | refine blk_drewN ?_ _ | refine blk_drew ?_ | refine blk_alloc ?_ _)); refine blk_put (cs := #[.int .i64 t896, .int .i64 t897, .int .i64 0, .int .i64 0, .slice none 0 0]) ?_ 2 _ rfl; (with_reducible repeat (first | refine blk_drewN ?_ _ | refine blk_drew ?_ | refine blk_alloc ?_ _)); refine blk_put (cs := #[.int .i64 t896, .int .i64 0, .int .i64 0, .int .i64 0, .slice none 0 0]) ?_ 1 _ rfl; (with_reducible repeat (first | refine blk_drewN ?_ _ | refine blk_drew ?_ | refine blk_alloc ?_ _)); refine blk_put (cs := #[.int .i64 0, .int .i64 0, .int .i64 0, .int .i64 0, .slice none 0 0]) ?_ 0 _ rfl; (with_reducible repeat (first | refine blk_drewN ?_ _ | refine blk_drew ?_ | refine blk_alloc ?_ _)); exact BK903.out⟩
       have n15_ : Aside0 (Below w.heap.size w (((((w84.setCell ⟨gb903, 0, none⟩ (.int .i64 t896)).setCell ⟨gb903, 1, none⟩ (.int .i64 t897)).setCell ⟨gb903, 2, none⟩ (.int .i64 t898)).setCell ⟨gb903, 3, none⟩ (.int .i64 t899)).setCell ⟨gb903, 4, none⟩ (.slice Ao90 t900.length co90))) := ⟨mB HB.out⟩
       (try clear HO_32)
       (try clear HO_855004)
       (try clear HO_856000)
       (try clear HO_856001)
       (try clear HO_856002)
       (try clear HO_873004)
       (try clear HO_874000)
       (try clear HO_874001)
       (try clear HO_874002)
       (try clear HO902)
       (try clear BK854)
       (try clear BK855)
       (try clear BK872)
       (try clear BK873)
       (try clear BK903)
       (try clear HB)
       generalize (((((w84.setCell ⟨gb903, 0, none⟩ (.int .i64 t896)).setCell ⟨gb903, 1, none⟩ (.int .i64 t897)).setCell ⟨gb903, 2, none⟩ (.int .i64 t898)).setCell ⟨gb903, 3, none⟩ (.int .i64 t899)).setCell ⟨gb903, 4, none⟩ (.slice Ao90 t900.length co90)) = w91 at n0_ n1_ n2_ n3_ n4_ n5_ n6_ n7_ n8_ n9_ n10_ n11_ n12_ n13_ n14_ n15_ ⊢
       have HO_32 := n0_
       have HO_855004 := n1_
       have HO_856000 := n2_
       have HO_856001 := n3_
       have HO_856002 := n4_
       have HO_873004 := n5_
       have HO_874000 := n6_
       have HO_874001 := n7_
       have HO_874002 := n8_
       have HO902 := n9_
       have BK854 := n10_
       have BK855 := n11_
       have BK872 := n12_
       have BK873 := n13_
       have BK903 := n14_
       have HB := n15_
       clear n0_ n1_ n2_ n3_ n4_ n5_ n6_ n7_ n8_ n9_ n10_ n11_ n12_ n13_ n14_ n15_
       have n0_ := z0 (Kd.R_drew HO_32.out)
       have n1_ := z0 (Kd.N_drew HO_855004.out)
       have n2_ := z0 (Kd.R_drew HO_856000.out)
       have n3_ := z0 (Kd.R_drew HO_856001.out)
       have n4_ := z0 (Kd.R_drew HO_856002.out)
       have n5_ := z0 (Kd.N_drew HO_873004.out)
       have n6_ := z0 (Kd.R_drew HO_874000.out)
       have n7_ := z0 (Kd.R_drew HO_874001.out)
       have n8_ := z0 (Kd.R_drew HO_874002.out)
       have n9_ := z0 (Kd.N_drew HO902.out)
       have n10_ := z0 (blk_drew BK854.out)
       have n11_ := z0 (blk_drew BK855.out)
       have n12_ := z0 (blk_drew BK872.out)
       have n13_ := z0 (blk_drew BK873.out)
       have n14_ := z0 (blk_drew BK903.out)
       have n15_ := z0 (below_drew1 HB.out)
       clear HO_32 HO_855004 HO_856000 HO_856001 HO_856002 HO_873004 HO_874000 HO_874001 HO_874002 HO902 BK854 BK855 BK872 BK873 BK903 HB
       have HO_32 := n0_
       have HO_855004 := n1_
       have HO_856000 := n2_
       have HO_856001 := n3_
       have HO_856002 := n4_
       have HO_873004 := n5_
       have HO_874000 := n6_
       have HO_874001 := n7_
       have HO_874002 := n8_
       have HO902 := n9_
       have BK854 := n10_
       have BK855 := n11_
       have BK872 := n12_
       have BK873 := n13_
       have BK903 := n14_
       have HB := n15_
       clear n0_ n1_ n2_ n3_ n4_ n5_ n6_ n7_ n8_ n9_ n10_ n11_ n12_ n13_ n14_ n15_
       refine start_ (n := 11) (S := fun w' => w'.cell? ⟨gb903, 0, none⟩ = some (.int .i64 t896) ∧ w'.cell? ⟨gb903, 1, none⟩ = some (.int .i64 t897) ∧ w'.cell? ⟨gb903, 2, none⟩ = some (.int .i64 t898) ∧ w'.cell? ⟨gb903, 3, none⟩ = some (.int .i64 t899) ∧ w'.cell? ⟨gb903, 4, none⟩ = some (.slice Ao90 t900.length co90) ∧ w'.cell? ⟨gb855, 0, none⟩ = some (.slice Ao14 t845.length co14) ∧ w'.cell? ⟨gb855, 1, none⟩ = some (.slice Ao16 t848.length co16) ∧ w'.cell? ⟨gb855, 2, none⟩ = some (.slice Ao17 t851.length co17) ∧ w'.cell? ⟨gb872, 0, none⟩ = some (.int .i64 t856) ∧ w'.cell? ⟨gb872, 1, none⟩ = some (.int .i64 t857) ∧ w'.cell? ⟨gb872, 2, none⟩ = some (.int .i64 t858) ∧ w'.cell? ⟨gb872, 3, none⟩ = some (.int .i64 t859) ∧ w'.cell? ⟨gb872, 4, none⟩ = some (.slice Ao25 t860.length co25) ∧ w'.cell? ⟨gb854, 0, none⟩ = some (.int .i64 t838) ∧ w'.cell? ⟨gb854, 1, none⟩ = some (.int .i64 t839) ∧ w'.cell? ⟨gb854, 2, none⟩ = some (.int .i64 t840) ∧ w'.cell? ⟨gb854, 3, none⟩ = some (.int .i64 t841) ∧ w'.cell? ⟨gb854, 4, none⟩ = some (.slice Ao13 t842.length co13)) (ds := []) #[false, false, false, false, false, false, false, false, false, false, false] (by kernel_rfl) rfl rfl ⟨(blk_cell BK903.out 0).trans rfl, (blk_cell BK903.out 1).trans rfl, (blk_cell BK903.out 2).trans rfl, (blk_cell BK903.out 3).trans rfl, (blk_cell BK903.out 4).trans rfl, (blk_cell BK855.out 0).trans rfl, (blk_cell BK855.out 1).trans rfl, (blk_cell BK855.out 2).trans rfl, (blk_cell BK872.out 0).trans rfl, (blk_cell BK872.out 1).trans rfl, (blk_cell BK872.out 2).trans rfl, (blk_cell BK872.out 3).trans rfl, (blk_cell BK872.out 4).trans rfl, (blk_cell BK854.out 0).trans rfl, (blk_cell BK854.out 1).trans rfl, (blk_cell BK854.out 2).trans rfl, (blk_cell BK854.out 3).trans rfl, (blk_cell BK854.out 4).trans rfl⟩ (fun hHeld => ?_); refine with_tabW laws_FnExprSwap.tab14 laws_FnExprSwap.bits14 (fun HT_ HW_ => ?_)
       generalize w91.drew = w92 at HO_32 HO_855004 HO_856000 HO_856001 HO_856002 HO_873004 HO_874000 HO_874001 HO_874002 HO902 BK854 BK855 BK872 BK873 BK903 HB hHeld ⊢
       refine take_ (i := 0) (N := some 64) (v := ?_) (a' := ?_) #[true, false, false, false, false, false, false, false, false, false, false] rfl rfl (take_ofW HT_.out HW_.out (by kernel_rfl)) (fun _ _ _ h => h) (Or.inl ⟨by rfl, ?_⟩) hHeld ?_ ?_
       rotate_left
       ·rintro w' ⟨s0, s1, s2, s3, s4, s5, s6, s7, s8, s9, s10, s11, s12, s13, s14, s15, s16, s17⟩
        go_simp
        with_reducible rfl
       rotate_left
       ·simp only [Act.put, List.setIfInBounds_toArray, List.set_cons_zero, List.set_cons_succ, i64_w, i32_w]
        rfl
       refine take_ (i := 1) (N := some 65) (v := ?_) (a' := ?_) #[true, true, false, false, false, false, false, false, false, false, false] rfl rfl (take_ofW HT_.out HW_.out (by kernel_rfl)) (fun _ _ _ h => h) (Or.inl ⟨by rfl, ?_⟩) hHeld ?_ ?_
       rotate_left
       ·rintro w' ⟨s0, s1, s2, s3, s4, s5, s6, s7, s8, s9, s10, s11, s12, s13, s14, s15, s16, s17⟩
        go_simp
        with_reducible rfl
       rotate_left
       ·simp only [Act.put, List.setIfInBounds_toArray, List.set_cons_zero, List.set_cons_succ, i64_w, i32_w]
        rfl
       refine take_ (i := 3) (N := some 67) (v := ?_) (a' := ?_) #[true, true, false, true, false, false, false, false, false, false, false] rfl rfl (take_ofW HT_.out HW_.out (by kernel_rfl)) (fun _ _ _ h => h) (Or.inl ⟨by rfl, ?_⟩) hHeld ?_ ?_
       rotate_left
       ·rintro w' ⟨s0, s1, s2, s3, s4, s5, s6, s7, s8, s9, s10, s11, s12, s13, s14, s15, s16, s17⟩
        go_simp
        with_reducible rfl
       rotate_left
       ·simp only [Act.put, List.setIfInBounds_toArray, List.set_cons_zero, List.set_cons_succ, i64_w, i32_w]
        rfl
       refine take_ (i := 4) (N := some 68) (v := ?_) (a' := ?_) #[true, true, false, true, true, false, false, false, false, false, false] rfl rfl (take_ofW HT_.out HW_.out (by kernel_rfl)) (fun _ _ _ h => h) (Or.inl ⟨by rfl, ?_⟩) hHeld ?_ ?_
       rotate_left
       ·rintro w' ⟨s0, s1, s2, s3, s4, s5, s6, s7, s8, s9, s10, s11, s12, s13, s14, s15, s16, s17⟩
        go_simp
        with_reducible rfl
       rotate_left
       ·simp only [Act.put, List.setIfInBounds_toArray, List.set_cons_zero, List.set_cons_succ, i64_w, i32_w]
        rfl
       refine take_ (i := 6) (N := some 70) (v := ?_) (a' := ?_) #[true, true, false, true, true, false, true, false, false, false, false] rfl rfl (take_ofW HT_.out HW_.out (by kernel_rfl)) (fun _ _ _ h => h) (Or.inl ⟨by rfl, ?_⟩) hHeld ?_ ?_
       rotate_left
       ·rintro w' ⟨s0, s1, s2, s3, s4, s5, s6, s7, s8, s9, s10, s11, s12, s13, s14, s15, s16, s17⟩
        go_simp
        with_reducible rfl
       rotate_left
       ·simp only [Act.put, List.setIfInBounds_toArray, List.set_cons_zero, List.set_cons_succ, i64_w, i32_w]
        rfl
       refine one_ (i := 2) (N := some 66) #[true, true, true, true, true, false, true, false, false, false, false] rfl rfl (one_of HT_.out (by kernel_rfl)) (by decide) (fun K hK => ?_)
       refine goes_ Try.func26 (by kernel_rfl) rfl #[.agg #[.int .i64 t896, .int .i64 t897, .int .i64 t898, .int .i64 t899, .slice Ao90 t900.length co90], .agg #[.slice Ao14 t845.length co14, .slice Ao16 t848.length co16, .slice Ao17 t851.length co17]] (by rfl) rfl rfl argx ?_
       with_reducible refine (impl_ExprOf.calls t896 t897 t898 t899 _ _ t900 _ _ t845 _ _ t848 _ _ t851 t904 _ ?side1 ?side2 ?side3 ?side4 ?side5 ?side6 ?side7 ?side8 A73.out).mono ?_
       (case side1 => exact mC (Kd.N_reads' HO902.out).2.2)
       (case side2 => exact (Kd.N_reads' HO902.out).2.1)
       (case side3 => exact mC (Kd.R_reads' HO_856000.out).2.2)
       (case side4 => exact (Kd.R_reads' HO_856000.out).2.1)
       (case side5 => exact mC (Kd.R_reads' HO_856001.out).2.2)
       (case side6 => exact (Kd.R_reads' HO_856001.out).2.1)
       (case side7 => exact mC (Kd.R_reads' HO_856002.out).2.2)
       (case side8 => exact (Kd.R_reads' HO_856002.out).2.1)
       rintro e w93 ⟨rfl, hb⟩
       refine ⟨_, rfl, ?_⟩
       have n0_ := z0 (Kd.R_below (mR HO_32.out) hb)
       have n1_ := z0 (Kd.N_below (mN HO_855004.out) hb)
       have n2_ := z0 (Kd.R_below (mR HO_856000.out) hb)
       have n3_ := z0 (Kd.R_below (mR HO_856001.out) hb)
       have n4_ := z0 (Kd.R_below (mR HO_856002.out) hb)
       have n5_ := z0 (Kd.N_below (mN HO_873004.out) hb)
       have n6_ := z0 (Kd.R_below (mR HO_874000.out) hb)
       have n7_ := z0 (Kd.R_below (mR HO_874001.out) hb)
       have n8_ := z0 (Kd.R_below (mR HO_874002.out) hb)
       have n9_ := z0 (Kd.N_below (mN HO902.out) hb)
       have n10_ := z0 (blk_below (g := gb854) (o := .cells #[.int .i64 t838, .int .i64 t839, .int .i64 t840, .int .i64 t841, .slice Ao13 t842.length co13] 32 (0, 0)) (mK BK854.out) hb)
       have n11_ := z0 (blk_below (g := gb855) (o := .cells #[.slice Ao14 t845.length co14, .slice Ao16 t848.length co16, .slice Ao17 t851.length co17] 44 (0, 0)) (mK BK855.out) hb)
       have n12_ := z0 (blk_below (g := gb872) (o := .cells #[.int .i64 t856, .int .i64 t857, .int .i64 t858, .int .i64 t859, .slice Ao25 t860.length co25] 32 (0, 0)) (mK BK872.out) hb)
       have n13_ := z0 (blk_below (g := gb873) (o := .cells #[.slice Ao26 t863.length co26, .slice Ao30 t866.length co30, .slice Ao31 t869.length co31] 44 (0, 0)) (mK BK873.out) hb)
       have n14_ := z0 (blk_below (g := gb903) (o := .cells #[.int .i64 t896, .int .i64 t897, .int .i64 t898, .int .i64 t899, .slice Ao90 t900.length co90] 32 (0, 0)) (mK BK903.out) hb)
       have n15_ := z0 (below_step (mB HB.out) hb)
       clear HO_32 HO_855004 HO_856000 HO_856001 HO_856002 HO_873004 HO_874000 HO_874001 HO_874002 HO902 BK854 BK855 BK872 BK873 BK903 HB
       have HO_32 := n0_
       have HO_855004 := n1_
       have HO_856000 := n2_
       have HO_856001 := n3_
       have HO_856002 := n4_
       have HO_873004 := n5_
       have HO_874000 := n6_
       have HO_874001 := n7_
       have HO_874002 := n8_
       have HO902 := n9_
       have BK854 := n10_
       have BK855 := n11_
       have BK872 := n12_
       have BK873 := n13_
       have BK903 := n14_
       have HB := n15_
       clear n0_ n1_ n2_ n3_ n4_ n5_ n6_ n7_ n8_ n9_ n10_ n11_ n12_ n13_ n14_ n15_
       (try clear hb)
       (try clear hb2)
       (try clear hk)
       (try clear hi)
       refine hK.out _ _ ⟨(blk_cell BK903.out 0).trans rfl, (blk_cell BK903.out 1).trans rfl, (blk_cell BK903.out 2).trans rfl, (blk_cell BK903.out 3).trans rfl, (blk_cell BK903.out 4).trans rfl, (blk_cell BK855.out 0).trans rfl, (blk_cell BK855.out 1).trans rfl, (blk_cell BK855.out 2).trans rfl, (blk_cell BK872.out 0).trans rfl, (blk_cell BK872.out 1).trans rfl, (blk_cell BK872.out 2).trans rfl, (blk_cell BK872.out 3).trans rfl, (blk_cell BK872.out 4).trans rfl, (blk_cell BK854.out 0).trans rfl, (blk_cell BK854.out 1).trans rfl, (blk_cell BK854.out 2).trans rfl, (blk_cell BK854.out 3).trans rfl, (blk_cell BK854.out 4).trans rfl⟩ (fun hHeld => ?_)
       clear hK K
       refine norm_ (a' := ?_) ?_ ?_
       rotate_left
       ·show Act.put _ (some 66) _ = _
        simp only [Act.put, List.setIfInBounds_toArray, List.set_cons_zero, List.set_cons_succ, i64_w, i32_w]
        rfl
       refine one_ (i := 5) (N := some 69) #[true, true, true, true, true, true, true, false, false, false, false] rfl rfl (one_of HT_.out (by kernel_rfl)) (by decide) (fun K hK => ?_)
       refine goes_ Try.func37 (by kernel_rfl) rfl #[.int .i64 4, .agg #[.int .i64 t856, .int .i64 t857, .int .i64 t858, .int .i64 t859, .slice Ao25 t860.length co25], .agg #[.int .i64 t838, .int .i64 t839, .int .i64 t840, .int .i64 t841, .slice Ao13 t842.length co13]] (by rfl) rfl rfl argx ?_
       with_reducible refine (laws_wqTwo.calls 4 t856 t857 t858 t859 (fun k_ => (nB k_ (.slice Ao34 y874.length co34) ∧ (nB k_ (.slice Ao13 t842.length co13) ∧ (nB k_ (.slice Ao14 t845.length co14) ∧ (nB k_ (.slice Ao16 t848.length co16) ∧ (nB k_ (.slice Ao17 t851.length co17) ∧ (nB k_ (.slice Ao26 t863.length co26) ∧ (nB k_ (.slice Ao30 t866.length co30) ∧ (nB k_ (.slice Ao31 t869.length co31) ∧ (nB k_ (.slice Ao90 t900.length co90) ∧ (k_ ≠ gb854 ∧ (k_ ≠ gb855 ∧ (k_ ≠ gb872 ∧ (k_ ≠ gb873 ∧ k_ ≠ gb903)))))))))))))) _ _ t860 t838 t839 t840 t841 (fun k_ => (nB k_ (.slice Ao34 y874.length co34) ∧ (nB k_ (.slice Ao14 t845.length co14) ∧ (nB k_ (.slice Ao16 t848.length co16) ∧ (nB k_ (.slice Ao17 t851.length co17) ∧ (nB k_ (.slice Ao25 t860.length co25) ∧ (nB k_ (.slice Ao26 t863.length co26) ∧ (nB k_ (.slice Ao30 t866.length co30) ∧ (nB k_ (.slice Ao31 t869.length co31) ∧ (nB k_ (.slice Ao90 t900.length co90) ∧ (k_ ≠ gb854 ∧ (k_ ≠ gb855 ∧ (k_ ≠ gb872 ∧ (k_ ≠ gb873 ∧ k_ ≠ gb903)))))))))))))) _ _ t842 t905 t906 t907 t908 t909 _ ?side1 ?side2 A74.out).mono ?_
       (case side1 => exact Kd.N_V (HO_873004.out))
       (case side2 => exact Kd.N_V (HO_855004.out))
       rintro e w94 ⟨v910, rfl, ho0, hb⟩
       refine ⟨_, rfl, ?_⟩
       have n0_ := z0 (Kd.R_below (mR HO_32.out) hb)
       have n1_ := z0 (Kd.N_elder' (mN HO_855004.out) (by first | exact Kd.N_base ho0 | exact Kd.R_base ho0) hb)
       have n2_ := z0 (Kd.R_below (mR HO_856000.out) hb)
       have n3_ := z0 (Kd.R_below (mR HO_856001.out) hb)
       have n4_ := z0 (Kd.R_below (mR HO_856002.out) hb)
       have n5_ := z0 (Kd.N_elder' (mN HO_873004.out) (by first | exact Kd.N_base ho0 | exact Kd.R_base ho0) hb)
       have n6_ := z0 (Kd.R_below (mR HO_874000.out) hb)
       have n7_ := z0 (Kd.R_below (mR HO_874001.out) hb)
       have n8_ := z0 (Kd.R_below (mR HO_874002.out) hb)
       have n9_ := z0 (Kd.N_elder' (mN HO902.out) (by first | exact Kd.N_base ho0 | exact Kd.R_base ho0) hb)
       have n10_ := z0 (Kd.N_lower (Kd.N_mono (ok' := fun k_ => nB k_ (.slice Ao34 y874.length co34) ∧ nB k_ (.slice Ao14 t845.length co14) ∧ nB k_ (.slice Ao16 t848.length co16) ∧ nB k_ (.slice Ao17 t851.length co17) ∧ nB k_ (.slice Ao26 t863.length co26) ∧ nB k_ (.slice Ao30 t866.length co30) ∧ nB k_ (.slice Ao31 t869.length co31) ∧ nB k_ (.slice Ao90 t900.length co90) ∧ k_ ≠ gb854 ∧ k_ ≠ gb855 ∧ k_ ≠ gb872 ∧ k_ ≠ gb873 ∧ k_ ≠ gb903) ho0 (fun k_ hk_ => ⟨Or.elim hk_ (fun hs_ => Or.elim hs_ (fun hs_ => hs_.1) (fun hs_ => hs_.1)) (fun hn_ => (Kd.fresh' (Kd.R_lt (mR HO_32.out)) k_ hn_)), Or.elim hk_ (fun hs_ => Or.elim hs_ (fun hs_ => hs_.2.2.1) (fun hs_ => hs_.2.1)) (fun hn_ => (Kd.fresh' (Kd.R_lt (mR HO_856000.out)) k_ hn_)), Or.elim hk_ (fun hs_ => Or.elim hs_ (fun hs_ => hs_.2.2.2.1) (fun hs_ => hs_.2.2.1)) (fun hn_ => (Kd.fresh' (Kd.R_lt (mR HO_856001.out)) k_ hn_)), Or.elim hk_ (fun hs_ => Or.elim hs_ (fun hs_ => hs_.2.2.2.2.1) (fun hs_ => hs_.2.2.2.1)) (fun hn_ => (Kd.fresh' (Kd.R_lt (mR HO_856002.out)) k_ hn_)), Or.elim hk_ (fun hs_ => Or.elim hs_ (fun hs_ => hs_.2.2.2.2.2.1) (fun hs_ => hs_.2.2.2.2.2.1)) (fun hn_ => (Kd.fresh' (Kd.R_lt (mR HO_874000.out)) k_ hn_)), Or.elim hk_ (fun hs_ => Or.elim hs_ (fun hs_ => hs_.2.2.2.2.2.2.1) (fun hs_ => hs_.2.2.2.2.2.2.1)) (fun hn_ => (Kd.fresh' (Kd.R_lt (mR HO_874001.out)) k_ hn_)), Or.elim hk_ (fun hs_ => Or.elim hs_ (fun hs_ => hs_.2.2.2.2.2.2.2.1) (fun hs_ => hs_.2.2.2.2.2.2.2.1)) (fun hn_ => (Kd.fresh' (Kd.R_lt (mR HO_874002.out)) k_ hn_)), Or.elim hk_ (fun hs_ => Or.elim hs_ (fun hs_ => hs_.2.2.2.2.2.2.2.2.1) (fun hs_ => hs_.2.2.2.2.2.2.2.2.1)) (fun hn_ => (Kd.fresh' (Kd.N_lt (mN HO902.out)) k_ hn_)), Or.elim hk_ (fun hs_ => Or.elim hs_ (fun hs_ => hs_.2.2.2.2.2.2.2.2.2.1) (fun hs_ => hs_.2.2.2.2.2.2.2.2.2.1)) (fun hn_ => (Kd.freshB (g := gb854) (o := .cells #[.int .i64 t838, .int .i64 t839, .int .i64 t840, .int .i64 t841, .slice Ao13 t842.length co13] 32 (0, 0)) (mK BK854.out) k_ hn_)), Or.elim hk_ (fun hs_ => Or.elim hs_ (fun hs_ => hs_.2.2.2.2.2.2.2.2.2.2.1) (fun hs_ => hs_.2.2.2.2.2.2.2.2.2.2.1)) (fun hn_ => (Kd.freshB (g := gb855) (o := .cells #[.slice Ao14 t845.length co14, .slice Ao16 t848.length co16, .slice Ao17 t851.length co17] 44 (0, 0)) (mK BK855.out) k_ hn_)), Or.elim hk_ (fun hs_ => Or.elim hs_ (fun hs_ => hs_.2.2.2.2.2.2.2.2.2.2.2.1) (fun hs_ => hs_.2.2.2.2.2.2.2.2.2.2.2.1)) (fun hn_ => (Kd.freshB (g := gb872) (o := .cells #[.int .i64 t856, .int .i64 t857, .int .i64 t858, .int .i64 t859, .slice Ao25 t860.length co25] 32 (0, 0)) (mK BK872.out) k_ hn_)), Or.elim hk_ (fun hs_ => Or.elim hs_ (fun hs_ => hs_.2.2.2.2.2.2.2.2.2.2.2.2.1) (fun hs_ => hs_.2.2.2.2.2.2.2.2.2.2.2.2.1)) (fun hn_ => (Kd.freshB (g := gb873) (o := .cells #[.slice Ao26 t863.length co26, .slice Ao30 t866.length co30, .slice Ao31 t869.length co31] 44 (0, 0)) (mK BK873.out) k_ hn_)), Or.elim hk_ (fun hs_ => Or.elim hs_ (fun hs_ => hs_.2.2.2.2.2.2.2.2.2.2.2.2.2) (fun hs_ => hs_.2.2.2.2.2.2.2.2.2.2.2.2.2)) (fun hn_ => (Kd.freshB (g := gb903) (o := .cells #[.int .i64 t896, .int .i64 t897, .int .i64 t898, .int .i64 t899, .slice Ao90 t900.length co90] 32 (0, 0)) (mK BK903.out) k_ hn_))⟩)) (below_size (mB HB.out)))
       have n11_ := z0 (blk_below (g := gb854) (o := .cells #[.int .i64 t838, .int .i64 t839, .int .i64 t840, .int .i64 t841, .slice Ao13 t842.length co13] 32 (0, 0)) (mK BK854.out) hb)
       have n12_ := z0 (blk_below (g := gb855) (o := .cells #[.slice Ao14 t845.length co14, .slice Ao16 t848.length co16, .slice Ao17 t851.length co17] 44 (0, 0)) (mK BK855.out) hb)
       have n13_ := z0 (blk_below (g := gb872) (o := .cells #[.int .i64 t856, .int .i64 t857, .int .i64 t858, .int .i64 t859, .slice Ao25 t860.length co25] 32 (0, 0)) (mK BK872.out) hb)
       have n14_ := z0 (blk_below (g := gb873) (o := .cells #[.slice Ao26 t863.length co26, .slice Ao30 t866.length co30, .slice Ao31 t869.length co31] 44 (0, 0)) (mK BK873.out) hb)
       have n15_ := z0 (blk_below (g := gb903) (o := .cells #[.int .i64 t896, .int .i64 t897, .int .i64 t898, .int .i64 t899, .slice Ao90 t900.length co90] 32 (0, 0)) (mK BK903.out) hb)
       have n16_ := z0 (below_step (mB HB.out) hb)
       clear HO_32 HO_855004 HO_856000 HO_856001 HO_856002 HO_873004 HO_874000 HO_874001 HO_874002 HO902 BK854 BK855 BK872 BK873 BK903 HB
       have HO_32 := n0_
       have HO_855004 := n1_
       have HO_856000 := n2_
       have HO_856001 := n3_
       have HO_856002 := n4_
       have HO_873004 := n5_
       have HO_874000 := n6_
       have HO_874001 := n7_
       have HO_874002 := n8_
       have HO902 := n9_
       have HO911 := n10_
       have BK854 := n11_
       have BK855 := n12_
       have BK872 := n13_
       have BK873 := n14_
       have BK903 := n15_
       have HB := n16_
       clear n0_ n1_ n2_ n3_ n4_ n5_ n6_ n7_ n8_ n9_ n10_ n11_ n12_ n13_ n14_ n15_ n16_
       (try clear hb)
       (try clear hb2)
       (try clear hk)
       (try clear hi)
       (try clear ho0)
       obtain ⟨Ao95, co95, eo95⟩ := Kd.N_slice HO911.out
       (first | subst eo95 | (injection eo95 with f1_ f2_ f3_; have f4_ := f1_.symm; have f5_ := f3_.symm; clear f1_ f2_ f3_; subst f4_; subst f5_))
       refine hK.out _ _ ⟨(blk_cell BK903.out 0).trans rfl, (blk_cell BK903.out 1).trans rfl, (blk_cell BK903.out 2).trans rfl, (blk_cell BK903.out 3).trans rfl, (blk_cell BK903.out 4).trans rfl, (blk_cell BK855.out 0).trans rfl, (blk_cell BK855.out 1).trans rfl, (blk_cell BK855.out 2).trans rfl, (blk_cell BK872.out 0).trans rfl, (blk_cell BK872.out 1).trans rfl, (blk_cell BK872.out 2).trans rfl, (blk_cell BK872.out 3).trans rfl, (blk_cell BK872.out 4).trans rfl, (blk_cell BK854.out 0).trans rfl, (blk_cell BK854.out 1).trans rfl, (blk_cell BK854.out 2).trans rfl, (blk_cell BK854.out 3).trans rfl, (blk_cell BK854.out 4).trans rfl⟩ (fun hHeld => ?_)
       clear hK K
       refine norm_ (a' := ?_) ?_ ?_
       rotate_left
       ·show Act.put _ (some 69) _ = _
        simp only [Act.put, List.setIfInBounds_toArray, List.set_cons_zero, List.set_cons_succ, i64_w, i32_w]
        rfl
       refine one_ (i := 7) (N := some 71) #[true, true, true, true, true, true, true, true, false, false, false] rfl rfl (one_of HT_.out (by kernel_rfl)) (by decide) (fun K hK => ?_)
       refine goes_ Try.func26 (by kernel_rfl) rfl #[.agg #[.int .i64 t905, .int .i64 t906, .int .i64 t907, .int .i64 t908, .slice Ao95 t909.length co95], .agg #[.slice Ao14 t845.length co14, .slice Ao16 t848.length co16, .slice Ao17 t851.length co17]] (by rfl) rfl rfl argx ?_
       with_reducible refine (impl_ExprOf.calls t905 t906 t907 t908 _ _ t909 _ _ t845 _ _ t848 _ _ t851 t912 _ ?side1 ?side2 ?side3 ?side4 ?side5 ?side6 ?side7 ?side8 A75.out).mono ?_
       (case side1 => exact mC (Kd.N_reads' HO911.out).2.2)
       (case side2 => exact (Kd.N_reads' HO911.out).2.1)
       (case side3 => exact mC (Kd.R_reads' HO_856000.out).2.2)
       (case side4 => exact (Kd.R_reads' HO_856000.out).2.1)
       (case side5 => exact mC (Kd.R_reads' HO_856001.out).2.2)
       (case side6 => exact (Kd.R_reads' HO_856001.out).2.1)
       (case side7 => exact mC (Kd.R_reads' HO_856002.out).2.2)
       (case side8 => exact (Kd.R_reads' HO_856002.out).2.1)
       rintro e w96 ⟨rfl, hb⟩
       refine ⟨_, rfl, ?_⟩
       have n0_ := z0 (Kd.R_below (mR HO_32.out) hb)
       have n1_ := z0 (Kd.N_below (mN HO_855004.out) hb)
       have n2_ := z0 (Kd.R_below (mR HO_856000.out) hb)
       have n3_ := z0 (Kd.R_below (mR HO_856001.out) hb)
       have n4_ := z0 (Kd.R_below (mR HO_856002.out) hb)
       have n5_ := z0 (Kd.N_below (mN HO_873004.out) hb)
       have n6_ := z0 (Kd.R_below (mR HO_874000.out) hb)
       have n7_ := z0 (Kd.R_below (mR HO_874001.out) hb)
       have n8_ := z0 (Kd.R_below (mR HO_874002.out) hb)
       have n9_ := z0 (Kd.N_below (mN HO902.out) hb)
       have n10_ := z0 (Kd.N_below (mN HO911.out) hb)
       have n11_ := z0 (blk_below (g := gb854) (o := .cells #[.int .i64 t838, .int .i64 t839, .int .i64 t840, .int .i64 t841, .slice Ao13 t842.length co13] 32 (0, 0)) (mK BK854.out) hb)
       have n12_ := z0 (blk_below (g := gb855) (o := .cells #[.slice Ao14 t845.length co14, .slice Ao16 t848.length co16, .slice Ao17 t851.length co17] 44 (0, 0)) (mK BK855.out) hb)
       have n13_ := z0 (blk_below (g := gb872) (o := .cells #[.int .i64 t856, .int .i64 t857, .int .i64 t858, .int .i64 t859, .slice Ao25 t860.length co25] 32 (0, 0)) (mK BK872.out) hb)
       have n14_ := z0 (blk_below (g := gb873) (o := .cells #[.slice Ao26 t863.length co26, .slice Ao30 t866.length co30, .slice Ao31 t869.length co31] 44 (0, 0)) (mK BK873.out) hb)
       have n15_ := z0 (blk_below (g := gb903) (o := .cells #[.int .i64 t896, .int .i64 t897, .int .i64 t898, .int .i64 t899, .slice Ao90 t900.length co90] 32 (0, 0)) (mK BK903.out) hb)
       have n16_ := z0 (below_step (mB HB.out) hb)
       clear HO_32 HO_855004 HO_856000 HO_856001 HO_856002 HO_873004 HO_874000 HO_874001 HO_874002 HO902 HO911 BK854 BK855 BK872 BK873 BK903 HB
       have HO_32 := n0_
       have HO_855004 := n1_
       have HO_856000 := n2_
       have HO_856001 := n3_
       have HO_856002 := n4_
       have HO_873004 := n5_
       have HO_874000 := n6_
       have HO_874001 := n7_
       have HO_874002 := n8_
       have HO902 := n9_
       have HO911 := n10_
       have BK854 := n11_
       have BK855 := n12_
       have BK872 := n13_
       have BK873 := n14_
       have BK903 := n15_
       have HB := n16_
       clear n0_ n1_ n2_ n3_ n4_ n5_ n6_ n7_ n8_ n9_ n10_ n11_ n12_ n13_ n14_ n15_ n16_
       (try clear hb)
       (try clear hb2)
       (try clear hk)
       (try clear hi)
       refine hK.out _ _ ⟨(blk_cell BK903.out 0).trans rfl, (blk_cell BK903.out 1).trans rfl, (blk_cell BK903.out 2).trans rfl, (blk_cell BK903.out 3).trans rfl, (blk_cell BK903.out 4).trans rfl, (blk_cell BK855.out 0).trans rfl, (blk_cell BK855.out 1).trans rfl, (blk_cell BK855.out 2).trans rfl, (blk_cell BK872.out 0).trans rfl, (blk_cell BK872.out 1).trans rfl, (blk_cell BK872.out 2).trans rfl, (blk_cell BK872.out 3).trans rfl, (blk_cell BK872.out 4).trans rfl, (blk_cell BK854.out 0).trans rfl, (blk_cell BK854.out 1).trans rfl, (blk_cell BK854.out 2).trans rfl, (blk_cell BK854.out 3).trans rfl, (blk_cell BK854.out 4).trans rfl⟩ (fun hHeld => ?_)
       clear hK K
       refine norm_ (a' := ?_) ?_ ?_
       rotate_left
       ·show Act.put _ (some 71) _ = _
        simp only [Act.put, List.setIfInBounds_toArray, List.set_cons_zero, List.set_cons_succ, i64_w, i32_w]
        rfl
       refine pure_ (i := 8) (N := some 72) (v := ?_) (a' := ?_) #[true, true, true, true, true, true, true, true, true, false, false] rfl rfl (any_of HT_.out (by kernel_rfl)) (fun _ _ _ h => h) (Or.inl ⟨by rfl, ?_⟩) ?_ ?_
       rotate_left
       ·intro w'
        go_simp
        with_reducible rfl
       rotate_left
       ·simp only [Act.put, List.setIfInBounds_toArray, List.set_cons_zero, List.set_cons_succ, i64_w, i32_w]
        rfl
       refine pure_ (i := 9) (N := some 73) (v := ?_) (a' := ?_) #[true, true, true, true, true, true, true, true, true, true, false] rfl rfl (any_of HT_.out (by kernel_rfl)) (fun _ _ _ h => h) (Or.inl ⟨by rfl, ?_⟩) ?_ ?_
       rotate_left
       ·intro w'
        go_simp
        with_reducible rfl
       rotate_left
       ·simp only [Act.put, List.setIfInBounds_toArray, List.set_cons_zero, List.set_cons_succ, i64_w, i32_w]
        rfl
       refine pure_ (i := 10) (N := some 4) (v := ?_) (a' := ?_) #[true, true, true, true, true, true, true, true, true, true, true] rfl rfl (any_of HT_.out (by kernel_rfl)) (fun _ _ _ h => h) (Or.inl ⟨by rfl, ?_⟩) ?_ ?_
       rotate_left
       ·intro w'
        go_simp
        with_reducible rfl
       rotate_left
       ·simp only [Act.put, List.setIfInBounds_toArray, List.set_cons_zero, List.set_cons_succ, i64_w, i32_w]
        rfl
       refine done_ (done_of HT_.out (by kernel_rfl)) ?_
       try go_wp2
       go_ret
       exact ⟨rfx, mB HB.out⟩

/-- THE ONE PURE STATEMENT of laws_FnExprSwap: yours. -/
def laws_FnExprSwap.Pure : Prop := ∀ (l0 : List Int) (l1 : List Int), l0.length ≤ maxLen → l0.length * 1 ≤ 140737488351232 → (∀ x ∈ l0, (Lit.int .u8 x).wf = true) → l1.length ≤ maxLen → l1.length * 1 ≤ 140737488351232 → (∀ x ∈ l1, (Lit.int .u8 x).wf = true) → ∃ k, laws_FnExprSwap.f k l0 l1 = some true
theorem laws_FnExprSwap.walk (P : laws_FnExprSwap.Pure) (a0 : Option Addr) (len0 cap0 : Nat) (z0 : List Int) (a1 : Option Addr) (len1 cap1 : Nat) (z1 : List Int) (w : World) (w0 : (a0 = none ∧ len0 = 0 ∧ cap0 = 0 ∧ z0 = []) ∨ ∃ x, a0 = some x ∧ len0 ≤ cap0 ∧ cap0 ≤ maxLen ∧ z0.length = cap0 ∧ (∀ i, i < z0.length → w.cell? (x.add i) = some (.int .u8 (z0.getD i 0))) ∧ ∀ n ∈ z0, (Lit.int .u8 n).wf = true) (y0 : len0 * 1 ≤ 140737488351232) (w1 : (a1 = none ∧ len1 = 0 ∧ cap1 = 0 ∧ z1 = []) ∨ ∃ x, a1 = some x ∧ len1 ≤ cap1 ∧ cap1 ≤ maxLen ∧ z1.length = cap1 ∧ (∀ i, i < z1.length → w.cell? (x.add i) = some (.int .u8 (z1.getD i 0))) ∧ ∀ n ∈ z1, (Lit.int .u8 n).wf = true) (y1 : len1 * 1 ≤ 140737488351232) :
  Calls Try.prog 9 #[.slice a0 len0 cap0, .slice a1 len1 cap1] w fun e w' => e = .returned (.bool true) ∧ Below w.heap.size w w' := by
 obtain ⟨l0, rfl, hr0, hm0, hw0, hc0⟩ := ReadsInt.ofRowC w0
 obtain ⟨l1, rfl, hr1, hm1, hw1, hc1⟩ := ReadsInt.ofRowC w1
 obtain ⟨k, h⟩ := P l0 l1 hm0 y0 hw0 hm1 y1 hw1
 refine (laws_FnExprSwap.calls k _ _ l0 _ _ l1 true w (Kd.C_of_reads (d := (0 : Int)) (h1 := fun _ => rfl) hr0) hc0 (Kd.C_of_reads (d := (0 : Int)) (h1 := fun _ => rfl) hr1) hc1 h).mono ?_
 rintro e w' ⟨rfl, hd⟩
 exact ⟨rfl, hd⟩

end Go.Proofs.Ytiofkhfmdophpaa.B
