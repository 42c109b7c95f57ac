/- Printed functions of this seat, in one text. -/
import Derived.Test.YtddnijmgipffeaaB0
import Derived.Test.YtddnijmgipffeaaSq
import Derived.Test.YtddnijmgipffeaaPkB
namespace Go.Proofs.Ytddnijmgipffeaa.B
open Go.RowKit Go.Proofs.YtddnijmgipffeaaW.PrintWords Go.Proofs.YtddnijmgipffeaaW.PrintLast Go.Proofs.YtddnijmgipffeaaW.PrintMore
attribute [local go_sem] max2_int min2_int max_two min_two max_three min_three max_four min_four   -- for this text's walks alone
set_option linter.unusedVariables false
set_option linter.unusedSimpArgs false

/-! ### spec_l3Bent: function 46 -/
mutual
def spec_l3Bent.l0 : Nat → Int → List Int → Int → Int → Int → Int → Int → List (S46) → Option (Int × Int × Int × Int × (List (S46)) × Int)
 | 0, _, _, _, _, _, _, _, _ => none
 | k + 1, x4, x1000, x1001, x447000, x447001, x447002, x447003, x447004 => if x4 < 6 then (spec_l3Bent.l0 k (wrap64 (x4 + 1)) x1000 x1001 10 0 0 0 (([(⟨x447000, x447001, (⟨x447002, x447003⟩ : S37), x447004⟩ : S46)] : List (S46)))) else (some (x447000, x447001, x447002, x447003, x447004, x1001))
def spec_l3Bent.l1 : Nat → Int → List Int → Int → Int → Int → Int → Int → List (S46) → Option (Int × Int × Int × Int × (List (S46)) × Int)
 | 0, _, _, _, _, _, _, _, _ => none
 | k + 1, x5, x1000, x1001, x447000, x447001, x447002, x447003, x447004 => if x5 < 4 then ((spec_l3Copy.f k x447000 x447001 x447002 x447003 x447004).bind fun bt465 => (spec_l3Bent.l1 k (wrap64 (x5 + 1)) x1000 x1001 3 0 0 0 (([(⟨x447000, x447001, (⟨x447002, x447003⟩ : S37), x447004⟩ : S46), (⟨bt465.1, bt465.2.1, (⟨bt465.2.2.1, bt465.2.2.2.1⟩ : S37), bt465.2.2.2.2⟩ : S46)] : List (S46))))) else (some (x447000, x447001, x447002, x447003, x447004, x1001))
end
def spec_l3Bent.f (k : Nat) (s0_0 : List Int) (s0_1 : Int) : Option (Int × Int × Int × Int × (List (S46)) × Int) := (spec_l3Some.f k s0_0 s0_1).bind fun bt438 => ((spec_l12Rd_pick.f k s0_0 bt438.2.2.2.2.2 60).bind fun bt447 => (if bt447.1 = 0 then ((spec_l12Rd_num.f k s0_0 bt447.2 (([0, 11, 3, 10] : List Int))).bind fun bt452 => (some (bt452.1, bt438.2.1, bt438.2.2.1, bt438.2.2.2.1, bt438.2.2.2.2.1, bt452.2))) else (if bt447.1 = 1 then ((spec_l12Rd_num.f k s0_0 bt447.2 (([1, 1000001] : List Int))).bind fun bt457 => (some (bt438.1, bt457.1, bt438.2.2.1, bt438.2.2.2.1, bt438.2.2.2.2.1, bt457.2))) else (if bt447.1 = 2 then ((spec_l2AddrBent.f k s0_0 bt447.2).bind fun bt459 => (some (bt438.1, bt438.2.1, bt459.1, bt459.2.1, bt438.2.2.2.2.1, bt459.2.2))) else (if bt447.1 = 3 then (spec_l3Bent.l0 k 0 s0_0 bt447.2 bt438.1 bt438.2.1 bt438.2.2.1 bt438.2.2.2.1 bt438.2.2.2.2.1) else (if bt447.1 = 4 then (spec_l3Bent.l1 k 0 s0_0 bt447.2 bt438.1 bt438.2.1 bt438.2.2.1 bt438.2.2.2.1 bt438.2.2.2.2.1) else (some (bt438.1, bt438.2.1, bt438.2.2.1, bt438.2.2.2.1, bt438.2.2.2.2.1, bt447.2))))))))
set_option maxHeartbeats 8000000 in
set_option maxRecDepth 100000 in
theorem spec_l3Bent.calls (k : Nat) (g : Nat) (s0_0 : List Int) (s0_1 : Int) (r1 : Int) (r2 : Int) (r3 : Int) (r4 : Int) (r5 : List (S46)) (r6 : Int) (w0 w : World) (hI : IsS116 w0 w g s0_0 s0_1) (hB : Below w0.heap.size w0 w) (h : spec_l3Bent.f k s0_0 s0_1 = some (r1, r2, r3, r4, r5, r6)) :
  Calls Try.prog 46 #[.pointer (some ⟨g, 0, none⟩)] w fun e w' => ∃ v4_ : Value, e = .returned (.agg #[.int .i64 r1, .int .i64 r2, .int .i64 r3, .int .i64 r4, v4_]) ∧ Kd.N k46 46 w' w.heap.size (fun k_ => (w.heap.size ≤ k_)) v4_ r5 ∧ IsS116 w0 w' g s0_0 r6 ∧ Below w0.heap.size w0 w' ∧ KeepBut w w' g none := by
 have hu46 := Try.underlying46
 have hu37 := Try.underlying37
 have HI0 := z0 hI
 have HK := z0 (KeepBut.refl w g none)
 have HL := z0 hB.size
 clear hI
 have HW0 := z0 hB.size
 have HB := z0 hB
 clear hB
 have H : ((spec_l3Some.f k s0_0 s0_1).bind fun bt438 => ((spec_l12Rd_pick.f k s0_0 bt438.2.2.2.2.2 60).bind fun bt447 => (if bt447.1 = 0 then ((spec_l12Rd_num.f k s0_0 bt447.2 (([0, 11, 3, 10] : List Int))).bind fun bt452 => (some (bt452.1, bt438.2.1, bt438.2.2.1, bt438.2.2.2.1, bt438.2.2.2.2.1, bt452.2))) else (if bt447.1 = 1 then ((spec_l12Rd_num.f k s0_0 bt447.2 (([1, 1000001] : List Int))).bind fun bt457 => (some (bt438.1, bt457.1, bt438.2.2.1, bt438.2.2.2.1, bt438.2.2.2.2.1, bt457.2))) else (if bt447.1 = 2 then ((spec_l2AddrBent.f k s0_0 bt447.2).bind fun bt459 => (some (bt438.1, bt438.2.1, bt459.1, bt459.2.1, bt438.2.2.2.2.1, bt459.2.2))) else (if bt447.1 = 3 then (spec_l3Bent.l0 k 0 s0_0 bt447.2 bt438.1 bt438.2.1 bt438.2.2.1 bt438.2.2.2.1 bt438.2.2.2.2.1) else (if bt447.1 = 4 then (spec_l3Bent.l1 k 0 s0_0 bt447.2 bt438.1 bt438.2.1 bt438.2.2.1 bt438.2.2.2.1 bt438.2.2.2.2.1) else (some (bt438.1, bt438.2.1, bt438.2.2.1, bt438.2.2.2.1, bt438.2.2.2.2.1, bt447.2))))))))) = some (r1, r2, r3, r4, r5, r6) := h
 clear h
 replace H := Option.bind_eq_some_iff.mp H
 obtain ⟨⟨t438, t439, t440, t441, t442, t445⟩, A20, H⟩ := H
 try dsimp only at H
 have A2 := z0 A20
 clear A20
 replace H := Option.bind_eq_some_iff.mp H
 obtain ⟨⟨t447, t448⟩, A30, H⟩ := H
 try dsimp only at H
 have A3 := z0 A30
 clear A30
 have HF4 := z0 H
 clear H
 go_enter Try.func46, Try.ntmps46
 go_upto_if 10 with (first | ((with_reducible refine gate_dst (N := 2) rfl ?_); refine box_event ?hg (N := 2) ?hd (cs := #[.int .i64 0, .int .i64 0, .int .i64 0, .int .i64 0, .slice none 0 0]) (t := 46) ?hr ?_; (case hd => rfl); (case hg => rfl); (case hr => first | (go_simp; done) | (go_simp; rfl)); intro gb437 hg w5 hbox hb; have n_ := az (IsS116.below (mI116_1 HI0.out) hb) <| az (KeepBut.trans (mKp HK.out) (KeepBut.of_below hb g none) (.inl rfl)) <| az (below_step (mB116HI0 HB.out) hb) <| az (hbox) <| az ((gW hg HK.out)) <| az ((Nat.le_trans HW0.out (gW hg HK.out) : w0.heap.size ≤ gb437)) <| az ((by rw [hg]; exact Nat.ne_of_lt (IsS116.lt (show IsS116 w0 _ g s0_0 s0_1 from mI116_1 HI0.out)) : g ≠ gb437)) <| z0 ((by rw [hg]; exact Nat.ne_of_gt (IsS116.lt (show IsS116 w0 _ g s0_0 s0_1 from mI116_1 HI0.out)) : gb437 ≠ g)); clear HI0 HK HB; obtain ⟨HI0, HK, HB, BK437, GW437, GE437, NB0_437, NB437_0⟩ := n_; clear hb hbox hg) | ((with_reducible refine gate_callee (f := 79) rfl ?_); refine goesL_ (some 7) rfl rfl Try.func79 (by kernel_rfl) rfl #[.pointer (some ⟨g, 0, none⟩)] rfl argx ?_; (with_reducible refine (spec_l3Some.calls k g s0_0 s0_1 t438 t439 t440 t441 t442 t445 w0 _ ?side1 ?side2 A2.out).mono ?_); (case side1 => exact mI116_1 HI0.out); (case side2 => exact mB116HI0 HB.out); rintro e w6 ⟨v443, rfl, ho0, hi, hb, hk⟩; refine ⟨_, rfl, ?_⟩; have n_ := az (kB hk BK437.out NB437_0.out) <| az (Kd.N_lower (Kd.N_mono (ok' := fun k_ => (w.heap.size ≤ k_) ∧ k_ ≠ gb437 ∧ k_ ≠ g) (Kd.R_N (Kd.R_bound ho0)) (fun k_ hk_ => ⟨(Nat.le_trans (kS HK.out) hk_.2.1), (fB BK437.out hk_.2.1), (IsS116.fresh (mI116_1 HI0.out) k_ hk_.2.1)⟩)) (kS HK.out)) <| az (KeepBut.trans (mKp HK.out) hk (.inl rfl)) <| az (hb) <| z0 (hi); clear BK437 HK HB HI0; obtain ⟨BK437, HO444, HK, HB, HI0⟩ := n_; clear hb hk hi ho0) | ((with_reducible refine gate_dst (N := 3) rfl ?_); refine box_event ?hg (N := 3) ?hd (cs := #[.int .i64 0, .int .i64 0, .int .i64 0, .int .i64 0, .slice none 0 0]) (t := 46) ?hr ?_; (case hd => rfl); (case hg => rfl); (case hr => first | (go_simp; done) | (go_simp; rfl)); intro gb446 hg w7 hbox hb; have n_ := az (Kd.N_below (Kd.N_elderB (mN HO444.out) gb446 (Nat.le_of_eq hg.symm)) hb) <| az (IsS116.below (mI116_1 HI0.out) hb) <| az (bB BK437.out hb) <| az (KeepBut.trans (mKp HK.out) (KeepBut.of_below hb g none) (.inl rfl)) <| az (below_step (mB116HI0 HB.out) hb) <| az (hbox) <| az ((gW hg HK.out)) <| az ((Nat.le_trans HW0.out (gW hg HK.out) : w0.heap.size ≤ gb446)) <| az ((nL hg BK437.out)) <| az ((nG hg BK437.out)) <| az ((by rw [hg]; exact Nat.ne_of_lt (IsS116.lt (show IsS116 w0 _ g s0_0 t445 from mI116_1 HI0.out)) : g ≠ gb446)) <| z0 ((by rw [hg]; exact Nat.ne_of_gt (IsS116.lt (show IsS116 w0 _ g s0_0 t445 from mI116_1 HI0.out)) : gb446 ≠ g)); clear HO444 HI0 BK437 HK HB; obtain ⟨HO444, HI0, BK437, HK, HB, BK446, GW446, GE446, NB437_446, NB446_437, NB0_446, NB446_0⟩ := n_; clear hb hbox hg; have hnb8 := NB446_437.out; have hnc8 := NB437_446.out; have hnb9 := NB446_0.out; have hnc9 := NB0_446.out; obtain ⟨hcz10_0, hcz10_1, hcz10_2, hcz10_3, hcz10_4, hfz10_0, hfz10_1, hfz10_2, hfz10_3, hfz10_4⟩ := cel5 BK446.out; obtain ⟨Ao11, co11, eo11⟩ := Kd.N_slice HO444.out; subst eo11) | ((with_reducible refine gate_callee (f := 73) rfl ?_); refine goesL_ (some 9) rfl rfl Try.func73 (by kernel_rfl) rfl #[.pointer (some ⟨g, 0, none⟩), .int .i64 60] rfl argx ?_; (with_reducible refine (spec_l12Rd_pick.calls k g s0_0 t445 60 t447 t448 w0 _ ?side1 ?side2 A3.out).mono ?_); (case side1 => exact mI116_1 HI0.out); (case side2 => exact mB116HI0 HB.out); rintro e w12 ⟨rfl, hi, hb, hk⟩; refine ⟨_, rfl, ?_⟩; have n_ := az (KeepBut.blk hk (g' := gb437) (o := .cells #[.int .i64 0, .int .i64 0, .int .i64 0, .int .i64 0, .slice none 0 0] 46 (0, 0)) (mF BK437.out) NB437_0.out (by simp)) <| az (Kd.N_mono (Kd.N_keep (Kd.N_mono (ok := fun k_ => ((((w.heap.size ≤ k_)) ∧ (k_ ≠ gb437 ∧ k_ ≠ g)) ∧ k_ ≠ gb446)) (by (with_reducible repeat (first | apply Kd.N_alloc | apply Kd.N_drewN | apply Kd.N_drew)); exact (Kd.N_mono (Kd.N_far (p := ⟨gb446, 4, none⟩) (Kd.N_far (p := ⟨gb446, 3, none⟩) (Kd.N_far (p := ⟨gb446, 2, none⟩) (Kd.N_far (p := ⟨gb446, 1, none⟩) (Kd.N_far (p := ⟨gb446, 0, none⟩) (Kd.N_mono HO444.out (fun k_ hk => (⟨hk, hk.2⟩ : _ ∧ k_ ≠ gb446))) (fun _ hk => hk.2) (.int .i64 t438)) (fun _ hk => hk.2) (.int .i64 t439)) (fun _ hk => hk.2) (.int .i64 t440)) (fun _ hk => hk.2) (.int .i64 t441)) (fun _ hk => hk.2) (.slice Ao11 t442.length co11)) (fun _ h_ => h_.1))) (fun k_ hk_ => (⟨hk_, hk_.1.2.2⟩ : _ ∧ k_ ≠ g))) hk (fun _ h => h.2)) (fun _ h => h.1)) <| az (KeepBut.blk hk (g' := gb446) (o := .cells #[.int .i64 t438, .int .i64 t439, .int .i64 t440, .int .i64 t441, .slice Ao11 t442.length co11] 46 (0, 0)) (by (with_reducible repeat (first | refine blk_drewN ?_ _ | refine blk_drew ?_ | refine blk_alloc ?_ _)); refine blk_put (cs := #[.int .i64 t438, .int .i64 t439, .int .i64 t440, .int .i64 t441, .slice none 0 0]) ?_ 4 _ rfl; (with_reducible repeat (first | refine blk_drewN ?_ _ | refine blk_drew ?_ | refine blk_alloc ?_ _)); refine blk_put (cs := #[.int .i64 t438, .int .i64 t439, .int .i64 t440, .int .i64 0, .slice none 0 0]) ?_ 3 _ rfl; (with_reducible repeat (first | refine blk_drewN ?_ _ | refine blk_drew ?_ | refine blk_alloc ?_ _)); refine blk_put (cs := #[.int .i64 t438, .int .i64 t439, .int .i64 0, .int .i64 0, .slice none 0 0]) ?_ 2 _ rfl; (with_reducible repeat (first | refine blk_drewN ?_ _ | refine blk_drew ?_ | refine blk_alloc ?_ _)); refine blk_put (cs := #[.int .i64 t438, .int .i64 0, .int .i64 0, .int .i64 0, .slice none 0 0]) ?_ 1 _ rfl; (with_reducible repeat (first | refine blk_drewN ?_ _ | refine blk_drew ?_ | refine blk_alloc ?_ _)); refine blk_put (cs := #[.int .i64 0, .int .i64 0, .int .i64 0, .int .i64 0, .slice none 0 0]) ?_ 0 _ rfl; (with_reducible repeat (first | refine blk_drewN ?_ _ | refine blk_drew ?_ | refine blk_alloc ?_ _)); exact BK446.out) NB446_0.out (by simp)) <| az (KeepBut.trans (mKp HK.out) hk (.inl rfl)) <| az (hb) <| z0 (hi); clear BK437 HO444 BK446 HK HB HI0; obtain ⟨BK437, HO444, BK446, HK, HB, HI0⟩ := n_; clear hb hk hi))
 (try simp only [Act.put, List.setIfInBounds_toArray, List.set_cons_zero, List.set_cons_succ])
 have H := HF4.out
 clear HF4
 (try clear hcz10_0); (try clear hcz10_1); (try clear hcz10_2); (try clear hcz10_3); (try clear hcz10_4); (try clear hfz10_0); (try clear hfz10_1); (try clear hfz10_2); (try clear hfz10_3); (try clear hfz10_4)
 by_cases c13 : t447 = 0
 ·rw [if_pos c13] at H
  have c13b0 : (t447 == 0) = true := beq_iff_eq.mpr c13
  have c13b1 : (t447 != 0) = false := bne_eq_false_iff_eq.mpr c13
  clear c13
  (first | rw [c13b0] | (simp only [i64_w, i32_w]; rw [c13b0]) | skip)
  obtain ⟨y449, hy449⟩ : ∃ y_ : List Int, y_ = (([0, 11, 3, 10] : List Int)) := ⟨_, rfl⟩
  replace H : ((spec_l12Rd_num.f k s0_0 t448 y449).bind fun bt452 => (some (bt452.1, t439, t440, t441, t442, bt452.2))) = some (r1, r2, r3, r4, r5, r6) := by first | (rw [hy449]; with_reducible exact H) | (have H2_ := (Option.bind_some _ _).symm.trans H; rw [hy449]; with_reducible exact H2_) | (have H2_ := (Option.bind_some _ _).symm.trans H; with_reducible exact H2_) | with_reducible exact H | (rw [hy449]; exact H) | exact H
  have Ny449 := z0 hy449
  clear hy449
  replace H := Option.bind_eq_some_iff.mp H
  obtain ⟨⟨t452, t453⟩, A140, H⟩ := H
  try dsimp only at H
  have A14 := z0 A140
  clear A140
  simp only [Option.some.injEq, Prod.mk.injEq] at H
  obtain ⟨rfl, rfl, rfl, rfl, rfl, rfl⟩ := H
  go_wp2_with (first | ((with_reducible refine gate_dst (N := 13) rfl ?_); refine Kd.R_lit (Kd.int .i64) _ 3 ?hg (N := 13) ?hd (xs := ([0, 11, 3, 10] : List Int)) (inner := [.int .i64 0, .int .i64 11, .int .i64 3, .int .i64 10]) (ok := fun _ => True) (okp := fun _ => True) ?hr ?hp (fun _ hk => hk) trivial (Below.refl _ _) (Nat.le_refl _) (by simp) ?_; (case hd => rfl); (case hg => rfl); (case hr => first | (go_simp; done) | (go_simp; rfl)); (case hp => exact (Reps.one (show Kd.M (Kd.int .i64) _ _ _ 0 [.int .i64 0] from rfl) (Reps.one (show Kd.M (Kd.int .i64) _ _ _ 11 [.int .i64 11] from rfl) (Reps.one (show Kd.M (Kd.int .i64) _ _ _ 3 [.int .i64 3] from rfl) (Reps.one (show Kd.M (Kd.int .i64) _ _ _ 10 [.int .i64 10] from rfl) (Reps.none _ _)))))); intro v450 w15 ho16 hb hg_ hnew_; clear hg_ hnew_; (first | rw [← Ny449.out] at ho16 | (simp only [Int.reduceToNat] at ho16; rw [← Ny449.out] at ho16)); have n_ := az (Kd.N_elder' (mN HO444.out) (by first | exact Kd.R_base ho16 | exact Kd.R_base ho16) hb) <| az (Kd.R_lower (Kd.R_newM (M := fun k_ => (w.heap.size ≤ k_)) ho16 (kS HK.out) (fun k_ h_ => h_)) (kS HK.out)) <| az (IsS116.below (mI116_1 HI0.out) hb) <| az (bB BK437.out hb) <| az (bB BK446.out hb) <| az (KeepBut.trans (mKp HK.out) (KeepBut.of_below hb g none) (.inl rfl)) <| z0 (below_step (mB116HI0 HB.out) hb); clear HO444 HI0 BK437 BK446 HK HB; obtain ⟨HO444, HO451, HI0, BK437, BK446, HK, HB⟩ := n_; clear hb ho16; obtain ⟨Ao17, co17, eo17⟩ := Kd.R_slice HO451.out; subst eo17) | ((with_reducible refine gate_callee (f := 74) rfl ?_); refine goesL_ (some 14) rfl rfl Try.func74 (by kernel_rfl) rfl #[.pointer (some ⟨g, 0, none⟩), .slice Ao17 y449.length co17] rfl argx ?_; (with_reducible refine (spec_l12Rd_num.calls k g s0_0 t448 _ _ y449 t452 t453 w0 _ ?side1 ?side2 ?side3 ?side4 ?side5 A14.out).mono ?_); (case side1 => exact mI116_1 HI0.out); (case side2 => exact mB116HI0 HB.out); (case side3 => exact mC (Kd.R_reads' HO451.out).2.2); (case side4 => exact (Kd.R_reads' HO451.out).2.1); (case side5 => exact far_slice (IsS116.own_ne HI0.out HO451.out (by decide))); rintro e w18 ⟨rfl, hi, hb, hk⟩; refine ⟨_, rfl, ?_⟩; have n_ := az (kB hk BK437.out NB437_0.out) <| az (Kd.N_mono (Kd.N_keep (Kd.N_mono (ok := fun k_ => (((((w.heap.size ≤ k_)) ∧ (k_ ≠ gb437 ∧ k_ ≠ g)) ∧ k_ ≠ gb446) ∧ nB k_ (.slice Ao17 y449.length co17))) (mN HO444.out) (fun k_ hk_ => (⟨hk_, hk_.1.1.2.2⟩ : _ ∧ k_ ≠ g))) hk (fun _ h => h.2)) (fun _ h => h.1)) <| az (kB hk BK446.out NB446_0.out) <| az (Kd.R_mono (Kd.R_keep (IsS116.apart (show IsS116 w0 _ g s0_0 t448 from mI116_1 HI0.out) (mR HO451.out) (by decide)) hk (fun _ h => h.2)) (fun _ h => h.1)) <| az (KeepBut.trans (mKp HK.out) hk (.inl rfl)) <| az (hb) <| z0 (hi); clear BK437 HO444 BK446 HO451 HK HB HI0; obtain ⟨BK437, HO444, BK446, HO451, HK, HB, HI0⟩ := n_; clear hb hk hi; have hnb19 := NB446_437.out; have hnc19 := NB437_446.out; have hnb20 := NB446_0.out; have hnc20 := NB0_446.out; obtain ⟨hcz21_0, hcz21_1, hcz21_2, hcz21_3, hcz21_4, hfz21_0, hfz21_1, hfz21_2, hfz21_3, hfz21_4⟩ := cel5 BK446.out; have hnb22 := NB437_0.out; have hnc22 := NB0_437.out; obtain ⟨hcz23_0, hcz23_1, hcz23_2, hcz23_3, hcz23_4, hfz23_0, hfz23_1, hfz23_2, hfz23_3, hfz23_4⟩ := cel5 BK437.out))
  refine bodyPost_ret (results_cell_row rfl _ _ gb437 46 #[.int .i64 t452, .int .i64 t439, .int .i64 t440, .int .i64 t441, .slice Ao11 t442.length co11] (0, 0) _ rfl (by (with_reducible repeat (first | refine blk_drewN ?_ _ | refine blk_drew ?_ | refine blk_alloc ?_ _)); refine blk_put (cs := #[.int .i64 t452, .int .i64 t439, .int .i64 t440, .int .i64 t441, .slice none 0 0]) ?_ 4 _ rfl; (with_reducible repeat (first | refine blk_drewN ?_ _ | refine blk_drew ?_ | refine blk_alloc ?_ _)); refine blk_put (cs := #[.int .i64 t452, .int .i64 t439, .int .i64 t440, .int .i64 0, .slice none 0 0]) ?_ 3 _ rfl; (with_reducible repeat (first | refine blk_drewN ?_ _ | refine blk_drew ?_ | refine blk_alloc ?_ _)); refine blk_put (cs := #[.int .i64 t452, .int .i64 t439, .int .i64 0, .int .i64 0, .slice none 0 0]) ?_ 2 _ rfl; (with_reducible repeat (first | refine blk_drewN ?_ _ | refine blk_drew ?_ | refine blk_alloc ?_ _)); refine blk_put (cs := #[.int .i64 t452, .int .i64 0, .int .i64 0, .int .i64 0, .slice none 0 0]) ?_ 1 _ rfl; (with_reducible repeat (first | refine blk_drewN ?_ _ | refine blk_drew ?_ | refine blk_alloc ?_ _)); refine blk_put (cs := #[.int .i64 0, .int .i64 0, .int .i64 0, .int .i64 0, .slice none 0 0]) ?_ 0 _ rfl; (with_reducible repeat (first | refine blk_drewN ?_ _ | refine blk_drew ?_ | refine blk_alloc ?_ _)); refine blk_far ?_ NB437_446.out _; (with_reducible repeat (first | refine blk_drewN ?_ _ | refine blk_drew ?_ | refine blk_alloc ?_ _)); exact BK437.out) Try.underlying46 rfl (by kernel_rfl)) rfl ?_
  exact ⟨_, rfx, by (with_reducible repeat (first | apply Kd.N_alloc | apply Kd.N_drewN | apply Kd.N_drew)); exact Kd.N_mono (Kd.N_far (p := ⟨gb437, 4, none⟩) (Kd.N_far (p := ⟨gb437, 3, none⟩) (Kd.N_far (p := ⟨gb437, 2, none⟩) (Kd.N_far (p := ⟨gb437, 1, none⟩) (Kd.N_far (p := ⟨gb437, 0, none⟩) (Kd.N_far (p := ⟨gb446, 0, none⟩) (Kd.N_mono (Kd.N_mono HO444.out (fun k_ hk => (⟨hk, hk.1.2⟩ : _ ∧ k_ ≠ gb446))) (fun k_ hk => (⟨hk, hk.1.1.1.2.1⟩ : _ ∧ k_ ≠ gb437))) (fun _ hk => hk.1.2) (.int .i64 t452)) (fun _ hk => hk.2) (.int .i64 t452)) (fun _ hk => hk.2) (.int .i64 t439)) (fun _ hk => hk.2) (.int .i64 t440)) (fun _ hk => hk.2) (.int .i64 t441)) (fun _ hk => hk.2) (.slice Ao11 t442.length co11)) (fun _ hk => hk.1.1.1.1.1), mI116_1 HI0.out, mB116HI0 HB.out, mKp HK.out⟩
 ·rw [if_neg c13] at H
  have c13b0 : (t447 == 0) = false := beq_eq_false_iff_ne.mpr c13
  have c13b1 : (t447 != 0) = true := bne_iff_ne.mpr c13
  (first | rw [c13b0] | (simp only [i64_w, i32_w]; rw [c13b0]) | skip)
  by_cases c24 : t447 = 1
  ·rw [if_pos c24] at H
   have c24b0 : (t447 == 1) = true := beq_iff_eq.mpr c24
   have c24b1 : (t447 != 1) = false := bne_eq_false_iff_eq.mpr c24
   clear c24
   obtain ⟨y454, hy454⟩ : ∃ y_ : List Int, y_ = (([1, 1000001] : List Int)) := ⟨_, rfl⟩
   replace H : ((spec_l12Rd_num.f k s0_0 t448 y454).bind fun bt457 => (some (t438, bt457.1, t440, t441, t442, bt457.2))) = some (r1, r2, r3, r4, r5, r6) := by first | (rw [hy454]; with_reducible exact H) | (have H2_ := (Option.bind_some _ _).symm.trans H; rw [hy454]; with_reducible exact H2_) | (have H2_ := (Option.bind_some _ _).symm.trans H; with_reducible exact H2_) | with_reducible exact H | (rw [hy454]; exact H) | exact H
   have Ny454 := z0 hy454
   clear hy454
   replace H := Option.bind_eq_some_iff.mp H
   obtain ⟨⟨t457, t458⟩, A250, H⟩ := H
   try dsimp only at H
   have A25 := z0 A250
   clear A250
   simp only [Option.some.injEq, Prod.mk.injEq] at H
   obtain ⟨rfl, rfl, rfl, rfl, rfl, rfl⟩ := H
   go_wp2_with (first | ((with_reducible refine gate_dst (N := 19) rfl ?_); refine Kd.R_lit (Kd.int .i64) _ 3 ?hg (N := 19) ?hd (xs := ([1, 1000001] : List Int)) (inner := [.int .i64 1, .int .i64 1000001]) (ok := fun _ => True) (okp := fun _ => True) ?hr ?hp (fun _ hk => hk) trivial (Below.refl _ _) (Nat.le_refl _) (by simp) ?_; (case hd => rfl); (case hg => rfl); (case hr => first | (go_simp; done) | (go_simp; rfl)); (case hp => exact (Reps.one (show Kd.M (Kd.int .i64) _ _ _ 1 [.int .i64 1] from rfl) (Reps.one (show Kd.M (Kd.int .i64) _ _ _ 1000001 [.int .i64 1000001] from rfl) (Reps.none _ _)))); intro v455 w26 ho27 hb hg_ hnew_; clear hg_ hnew_; (first | rw [← Ny454.out] at ho27 | (simp only [Int.reduceToNat] at ho27; rw [← Ny454.out] at ho27)); have n_ := az (Kd.N_elder' (mN HO444.out) (by first | exact Kd.R_base ho27 | exact Kd.R_base ho27) hb) <| az (Kd.R_lower (Kd.R_newM (M := fun k_ => (w.heap.size ≤ k_)) ho27 (kS HK.out) (fun k_ h_ => h_)) (kS HK.out)) <| az (IsS116.below (mI116_1 HI0.out) hb) <| az (bB BK437.out hb) <| az (bB BK446.out hb) <| az (KeepBut.trans (mKp HK.out) (KeepBut.of_below hb g none) (.inl rfl)) <| z0 (below_step (mB116HI0 HB.out) hb); clear HO444 HI0 BK437 BK446 HK HB; obtain ⟨HO444, HO456, HI0, BK437, BK446, HK, HB⟩ := n_; clear hb ho27; obtain ⟨Ao28, co28, eo28⟩ := Kd.R_slice HO456.out; subst eo28) | ((with_reducible refine gate_callee (f := 74) rfl ?_); refine goesL_ (some 20) rfl rfl Try.func74 (by kernel_rfl) rfl #[.pointer (some ⟨g, 0, none⟩), .slice Ao28 y454.length co28] rfl argx ?_; (with_reducible refine (spec_l12Rd_num.calls k g s0_0 t448 _ _ y454 t457 t458 w0 _ ?side1 ?side2 ?side3 ?side4 ?side5 A25.out).mono ?_); (case side1 => exact mI116_1 HI0.out); (case side2 => exact mB116HI0 HB.out); (case side3 => exact mC (Kd.R_reads' HO456.out).2.2); (case side4 => exact (Kd.R_reads' HO456.out).2.1); (case side5 => exact far_slice (IsS116.own_ne HI0.out HO456.out (by decide))); rintro e w29 ⟨rfl, hi, hb, hk⟩; refine ⟨_, rfl, ?_⟩; have n_ := az (kB hk BK437.out NB437_0.out) <| az (Kd.N_mono (Kd.N_keep (Kd.N_mono (ok := fun k_ => (((((w.heap.size ≤ k_)) ∧ (k_ ≠ gb437 ∧ k_ ≠ g)) ∧ k_ ≠ gb446) ∧ nB k_ (.slice Ao28 y454.length co28))) (mN HO444.out) (fun k_ hk_ => (⟨hk_, hk_.1.1.2.2⟩ : _ ∧ k_ ≠ g))) hk (fun _ h => h.2)) (fun _ h => h.1)) <| az (kB hk BK446.out NB446_0.out) <| az (Kd.R_mono (Kd.R_keep (IsS116.apart (show IsS116 w0 _ g s0_0 t448 from mI116_1 HI0.out) (mR HO456.out) (by decide)) hk (fun _ h => h.2)) (fun _ h => h.1)) <| az (KeepBut.trans (mKp HK.out) hk (.inl rfl)) <| az (hb) <| z0 (hi); clear BK437 HO444 BK446 HO456 HK HB HI0; obtain ⟨BK437, HO444, BK446, HO456, HK, HB, HI0⟩ := n_; clear hb hk hi; have hnb30 := NB446_437.out; have hnc30 := NB437_446.out; have hnb31 := NB446_0.out; have hnc31 := NB0_446.out; obtain ⟨hcz32_0, hcz32_1, hcz32_2, hcz32_3, hcz32_4, hfz32_0, hfz32_1, hfz32_2, hfz32_3, hfz32_4⟩ := cel5 BK446.out; have hnb33 := NB437_0.out; have hnc33 := NB0_437.out; obtain ⟨hcz34_0, hcz34_1, hcz34_2, hcz34_3, hcz34_4, hfz34_0, hfz34_1, hfz34_2, hfz34_3, hfz34_4⟩ := cel5 BK437.out))
   refine bodyPost_ret (results_cell_row rfl _ _ gb437 46 #[.int .i64 t438, .int .i64 t457, .int .i64 t440, .int .i64 t441, .slice Ao11 t442.length co11] (0, 0) _ rfl (by (with_reducible repeat (first | refine blk_drewN ?_ _ | refine blk_drew ?_ | refine blk_alloc ?_ _)); refine blk_put (cs := #[.int .i64 t438, .int .i64 t457, .int .i64 t440, .int .i64 t441, .slice none 0 0]) ?_ 4 _ rfl; (with_reducible repeat (first | refine blk_drewN ?_ _ | refine blk_drew ?_ | refine blk_alloc ?_ _)); refine blk_put (cs := #[.int .i64 t438, .int .i64 t457, .int .i64 t440, .int .i64 0, .slice none 0 0]) ?_ 3 _ rfl; (with_reducible repeat (first | refine blk_drewN ?_ _ | refine blk_drew ?_ | refine blk_alloc ?_ _)); refine blk_put (cs := #[.int .i64 t438, .int .i64 t457, .int .i64 0, .int .i64 0, .slice none 0 0]) ?_ 2 _ rfl; (with_reducible repeat (first | refine blk_drewN ?_ _ | refine blk_drew ?_ | refine blk_alloc ?_ _)); refine blk_put (cs := #[.int .i64 t438, .int .i64 0, .int .i64 0, .int .i64 0, .slice none 0 0]) ?_ 1 _ rfl; (with_reducible repeat (first | refine blk_drewN ?_ _ | refine blk_drew ?_ | refine blk_alloc ?_ _)); refine blk_put (cs := #[.int .i64 0, .int .i64 0, .int .i64 0, .int .i64 0, .slice none 0 0]) ?_ 0 _ rfl; (with_reducible repeat (first | refine blk_drewN ?_ _ | refine blk_drew ?_ | refine blk_alloc ?_ _)); refine blk_far ?_ NB437_446.out _; (with_reducible repeat (first | refine blk_drewN ?_ _ | refine blk_drew ?_ | refine blk_alloc ?_ _)); exact BK437.out) Try.underlying46 rfl (by kernel_rfl)) rfl ?_
   exact ⟨_, rfx, by (with_reducible repeat (first | apply Kd.N_alloc | apply Kd.N_drewN | apply Kd.N_drew)); exact Kd.N_mono (Kd.N_far (p := ⟨gb437, 4, none⟩) (Kd.N_far (p := ⟨gb437, 3, none⟩) (Kd.N_far (p := ⟨gb437, 2, none⟩) (Kd.N_far (p := ⟨gb437, 1, none⟩) (Kd.N_far (p := ⟨gb437, 0, none⟩) (Kd.N_far (p := ⟨gb446, 1, none⟩) (Kd.N_mono (Kd.N_mono HO444.out (fun k_ hk => (⟨hk, hk.1.2⟩ : _ ∧ k_ ≠ gb446))) (fun k_ hk => (⟨hk, hk.1.1.1.2.1⟩ : _ ∧ k_ ≠ gb437))) (fun _ hk => hk.1.2) (.int .i64 t457)) (fun _ hk => hk.2) (.int .i64 t438)) (fun _ hk => hk.2) (.int .i64 t457)) (fun _ hk => hk.2) (.int .i64 t440)) (fun _ hk => hk.2) (.int .i64 t441)) (fun _ hk => hk.2) (.slice Ao11 t442.length co11)) (fun _ hk => hk.1.1.1.1.1), mI116_1 HI0.out, mB116HI0 HB.out, mKp HK.out⟩
  ·rw [if_neg c24] at H
   have c24b0 : (t447 == 1) = false := beq_eq_false_iff_ne.mpr c24
   have c24b1 : (t447 != 1) = true := bne_iff_ne.mpr c24
   by_cases c35 : t447 = 2
   ·rw [if_pos c35] at H
    have c35b0 : (t447 == 2) = true := beq_iff_eq.mpr c35
    have c35b1 : (t447 != 2) = false := bne_eq_false_iff_eq.mpr c35
    clear c35
    replace H := Option.bind_eq_some_iff.mp H
    obtain ⟨⟨t459, t460, t461⟩, A360, H⟩ := H
    try dsimp only at H
    have A36 := z0 A360
    clear A360
    simp only [Option.some.injEq, Prod.mk.injEq] at H
    obtain ⟨rfl, rfl, rfl, rfl, rfl, rfl⟩ := H
    go_wp2_with (first | ((with_reducible refine gate_callee (f := 75) rfl ?_); refine goesL_ (some 25) rfl rfl Try.func75 (by kernel_rfl) rfl #[.pointer (some ⟨g, 0, none⟩)] rfl argx ?_; (with_reducible refine (spec_l2AddrBent.calls k g s0_0 t448 t459 t460 t461 w0 _ ?side1 ?side2 A36.out).mono ?_); (case side1 => exact mI116_1 HI0.out); (case side2 => exact mB116HI0 HB.out); rintro e w37 ⟨rfl, hi, hb, hk⟩; refine ⟨_, rfl, ?_⟩; have n_ := az (kB hk BK437.out NB437_0.out) <| az (Kd.N_mono (Kd.N_keep (Kd.N_mono (ok := fun k_ => ((((w.heap.size ≤ k_)) ∧ (k_ ≠ gb437 ∧ k_ ≠ g)) ∧ k_ ≠ gb446)) (mN HO444.out) (fun k_ hk_ => (⟨hk_, hk_.1.2.2⟩ : _ ∧ k_ ≠ g))) hk (fun _ h => h.2)) (fun _ h => h.1)) <| az (kB hk BK446.out NB446_0.out) <| az (KeepBut.trans (mKp HK.out) hk (.inl rfl)) <| az (hb) <| z0 (hi); clear BK437 HO444 BK446 HK HB HI0; obtain ⟨BK437, HO444, BK446, HK, HB, HI0⟩ := n_; clear hb hk hi; have hnb38 := NB446_437.out; have hnc38 := NB437_446.out; have hnb39 := NB446_0.out; have hnc39 := NB0_446.out; obtain ⟨hcz40_0, hcz40_1, hcz40_2, hcz40_3, hcz40_4, hfz40_0, hfz40_1, hfz40_2, hfz40_3, hfz40_4⟩ := cel5 BK446.out; have hnb41 := NB437_0.out; have hnc41 := NB0_437.out; obtain ⟨hcz42_0, hcz42_1, hcz42_2, hcz42_3, hcz42_4, hfz42_0, hfz42_1, hfz42_2, hfz42_3, hfz42_4⟩ := cel5 BK437.out))
    refine bodyPost_ret (results_cell_row rfl _ _ gb437 46 #[.int .i64 t438, .int .i64 t439, .int .i64 t459, .int .i64 t460, .slice Ao11 t442.length co11] (0, 0) _ rfl (by (with_reducible repeat (first | refine blk_drewN ?_ _ | refine blk_drew ?_ | refine blk_alloc ?_ _)); refine blk_put (cs := #[.int .i64 t438, .int .i64 t439, .int .i64 t459, .int .i64 t460, .slice none 0 0]) ?_ 4 _ rfl; (with_reducible repeat (first | refine blk_drewN ?_ _ | refine blk_drew ?_ | refine blk_alloc ?_ _)); refine blk_put (cs := #[.int .i64 t438, .int .i64 t439, .int .i64 t459, .int .i64 0, .slice none 0 0]) ?_ 3 _ rfl; (with_reducible repeat (first | refine blk_drewN ?_ _ | refine blk_drew ?_ | refine blk_alloc ?_ _)); refine blk_put (cs := #[.int .i64 t438, .int .i64 t439, .int .i64 0, .int .i64 0, .slice none 0 0]) ?_ 2 _ rfl; (with_reducible repeat (first | refine blk_drewN ?_ _ | refine blk_drew ?_ | refine blk_alloc ?_ _)); refine blk_put (cs := #[.int .i64 t438, .int .i64 0, .int .i64 0, .int .i64 0, .slice none 0 0]) ?_ 1 _ rfl; (with_reducible repeat (first | refine blk_drewN ?_ _ | refine blk_drew ?_ | refine blk_alloc ?_ _)); refine blk_put (cs := #[.int .i64 0, .int .i64 0, .int .i64 0, .int .i64 0, .slice none 0 0]) ?_ 0 _ rfl; (with_reducible repeat (first | refine blk_drewN ?_ _ | refine blk_drew ?_ | refine blk_alloc ?_ _)); refine blk_far ?_ NB437_446.out _; (with_reducible repeat (first | refine blk_drewN ?_ _ | refine blk_drew ?_ | refine blk_alloc ?_ _)); refine blk_far ?_ NB437_446.out _; (with_reducible repeat (first | refine blk_drewN ?_ _ | refine blk_drew ?_ | refine blk_alloc ?_ _)); exact BK437.out) Try.underlying46 rfl (by kernel_rfl)) rfl ?_
    exact ⟨_, rfx, by (with_reducible repeat (first | apply Kd.N_alloc | apply Kd.N_drewN | apply Kd.N_drew)); exact Kd.N_mono (Kd.N_far (p := ⟨gb437, 4, none⟩) (Kd.N_far (p := ⟨gb437, 3, none⟩) (Kd.N_far (p := ⟨gb437, 2, none⟩) (Kd.N_far (p := ⟨gb437, 1, none⟩) (Kd.N_far (p := ⟨gb437, 0, none⟩) (Kd.N_far (p := ⟨gb446, 3, none⟩) (Kd.N_far (p := ⟨gb446, 2, none⟩) (Kd.N_mono (Kd.N_mono HO444.out (fun k_ hk => (⟨hk, hk.2⟩ : _ ∧ k_ ≠ gb446))) (fun k_ hk => (⟨hk, hk.1.1.2.1⟩ : _ ∧ k_ ≠ gb437))) (fun _ hk => hk.1.2) (.int .i64 t459)) (fun _ hk => hk.1.2) (.int .i64 t460)) (fun _ hk => hk.2) (.int .i64 t438)) (fun _ hk => hk.2) (.int .i64 t439)) (fun _ hk => hk.2) (.int .i64 t459)) (fun _ hk => hk.2) (.int .i64 t460)) (fun _ hk => hk.2) (.slice Ao11 t442.length co11)) (fun _ hk => hk.1.1.1.1), mI116_1 HI0.out, mB116HI0 HB.out, mKp HK.out⟩
   ·rw [if_neg c35] at H
    have c35b0 : (t447 == 2) = false := beq_eq_false_iff_ne.mpr c35
    have c35b1 : (t447 != 2) = true := bne_iff_ne.mpr c35
    by_cases c43 : t447 = 3
    ·rw [if_pos c43] at H
     have c43b0 : (t447 == 3) = true := beq_iff_eq.mpr c43
     have c43b1 : (t447 != 3) = false := bne_eq_false_iff_eq.mpr c43
     clear c43
     have H' := z0 H
     clear H
     go_wp2
     go_loopg [4] k (fun kq v4 w' => ∃ (x4_1 : Int) (x447000_1 : Int) (x447001_1 : Int) (x447002_1 : Int) (x447003_1 : Int) (x447004_1 : List (S46)) (u447004 : Value), v4 = .int .i64 x4_1 ∧ Aside0 (spec_l3Bent.l0 kq x4_1 s0_0 t448 x447000_1 x447001_1 x447002_1 x447003_1 x447004_1 = some (r1, r2, r3, r4, r5, r6)) ∧ Aside0 (kq ≤ k) ∧ Aside0 (Kd.N k46 46 w' w.heap.size (fun k_ => (w.heap.size ≤ k_) ∧ k_ ≠ gb437 ∧ k_ ≠ gb446 ∧ k_ ≠ g) u447004 x447004_1) ∧ Aside0 (w'.heap[gb437]? = some (.cells #[.int .i64 0, .int .i64 0, .int .i64 0, .int .i64 0, (.slice none 0 0)] 46 (0, 0))) ∧ Aside0 (w'.heap[gb446]? = some (.cells #[.int .i64 x447000_1, .int .i64 x447001_1, .int .i64 x447002_1, .int .i64 x447003_1, u447004] 46 (0, 0))) ∧ Aside0 (IsS116 w0 w' g s0_0 t448) ∧ Aside0 (KeepBut w w' g none) ∧ Aside0 (Below w0.heap.size w0 w'))
     case atStart => exact ⟨(0), (t438), (t439), (t440), (t441), (t442), (.slice Ao11 t442.length co11), rfy, H', ⟨Nat.le_refl _⟩, ⟨by (with_reducible repeat (first | apply Kd.N_alloc | apply Kd.N_drewN | apply Kd.N_drew)); exact Kd.N_mono HO444.out (fun _ hk => ⟨hk.1.1, ⟨hk.1.2.1, ⟨hk.2, hk.1.2.2⟩⟩⟩)⟩, ⟨mK BK437.out⟩, ⟨mK BK446.out⟩, ⟨mI116_1 HI0.out⟩, ⟨mKp HK.out⟩, ⟨mB116HI0 HB.out⟩⟩
     case round =>
      clear H'
      (try clear c13); (try clear c13b0); (try clear c13b1); (try clear c24); (try clear c24b0); (try clear c24b1); (try clear c35); (try clear c35b0); (try clear c35b1); (try clear c43); (try clear c43b0); (try clear c43b1); (try clear hcz10_0); (try clear hcz10_1); (try clear hcz10_2); (try clear hcz10_3); (try clear hcz10_4); (try clear hcz21_0); (try clear hcz21_1); (try clear hcz21_2); (try clear hcz21_3); (try clear hcz21_4); (try clear hcz23_0); (try clear hcz23_1); (try clear hcz23_2); (try clear hcz23_3); (try clear hcz23_4); (try clear hcz32_0); (try clear hcz32_1); (try clear hcz32_2); (try clear hcz32_3); (try clear hcz32_4); (try clear hcz34_0); (try clear hcz34_1); (try clear hcz34_2); (try clear hcz34_3); (try clear hcz34_4); (try clear hcz40_0); (try clear hcz40_1); (try clear hcz40_2); (try clear hcz40_3); (try clear hcz40_4); (try clear hcz42_0); (try clear hcz42_1); (try clear hcz42_2); (try clear hcz42_3); (try clear hcz42_4); (try clear hfz10_0); (try clear hfz10_1); (try clear hfz10_2); (try clear hfz10_3); (try clear hfz10_4); (try clear hfz21_0); (try clear hfz21_1); (try clear hfz21_2); (try clear hfz21_3); (try clear hfz21_4); (try clear hfz23_0); (try clear hfz23_1); (try clear hfz23_2); (try clear hfz23_3); (try clear hfz23_4); (try clear hfz32_0); (try clear hfz32_1); (try clear hfz32_2); (try clear hfz32_3); (try clear hfz32_4); (try clear hfz34_0); (try clear hfz34_1); (try clear hfz34_2); (try clear hfz34_3); (try clear hfz34_4); (try clear hfz40_0); (try clear hfz40_1); (try clear hfz40_2); (try clear hfz40_3); (try clear hfz40_4); (try clear hfz42_0); (try clear hfz42_1); (try clear hfz42_2); (try clear hfz42_3); (try clear hfz42_4)
      obtain ⟨x4_1, x447000_1, x447001_1, x447002_1, x447003_1, x447004_1, u447004, rfl, HA, HK1, HO_447004, BK437, BK446, HI0, HK, HB⟩ := hrel
      cases gk with
      | zero => exact absurd HA.out (by simp [spec_l3Bent.l0])
      | succ k1 =>
       have H := HA.out
       clear HA
       simp only [spec_l3Bent.l0] at H
       by_cases c44 : x4_1 < 6
       ·rw [if_pos c44] at H
        have c44b0 : decide (x4_1 < 6) = true := decide_eq_true c44
        clear c44
        obtain ⟨y462, hy462⟩ : ∃ y_ : List (S46), y_ = (([(⟨x447000_1, x447001_1, (⟨x447002_1, x447003_1⟩ : S37), x447004_1⟩ : S46)] : List (S46))) := ⟨_, rfl⟩
        replace H : (spec_l3Bent.l0 k1 (wrap64 (x4_1 + 1)) s0_0 t448 10 0 0 0 y462) = some (r1, r2, r3, r4, r5, r6) := by first | (rw [hy462]; with_reducible exact H) | (have H2_ := (Option.bind_some _ _).symm.trans H; rw [hy462]; with_reducible exact H2_) | (have H2_ := (Option.bind_some _ _).symm.trans H; with_reducible exact H2_) | with_reducible exact H | (rw [hy462]; exact H) | exact H
        have Ny462 := z0 hy462
        clear hy462
        have H' := z0 H
        clear H
        have hnb45 := NB446_437.out
        have hnc45 := NB437_446.out
        have hnb46 := NB446_0.out
        have hnc46 := NB0_446.out
        obtain ⟨hcz47_0, hcz47_1, hcz47_2, hcz47_3, hcz47_4, hfz47_0, hfz47_1, hfz47_2, hfz47_3, hfz47_4⟩ := cel5 BK446.out
        obtain ⟨Ao48, co48, eo48⟩ := Kd.N_slice HO_447004.out
        subst eo48
        go_wp2_with (first | ((with_reducible refine gate_dst (N := 34) rfl ?_); refine Kd.N_lit k46 _ 46 ?hg (N' := 34) ?hd (xs := ([(⟨x447000_1, x447001_1, (⟨x447002_1, x447003_1⟩ : S37), x447004_1⟩ : S46)] : List (S46))) (inner := [.int .i64 x447000_1, .int .i64 x447001_1, .int .i64 x447002_1, .int .i64 x447003_1, .slice Ao48 x447004_1.length co48]) (ok := (fun k_ => (w.heap.size ≤ k_) ∧ k_ ≠ gb437 ∧ k_ ≠ gb446 ∧ k_ ≠ g)) (okp := (fun k_ => (w.heap.size ≤ k_) ∧ k_ ≠ gb437 ∧ k_ ≠ gb446 ∧ k_ ≠ g)) ?hr ?hp (fun _ hk => hk) ((show ∀ k_, wr.heap.size ≤ k_ → (fun k_ => (w.heap.size ≤ k_) ∧ k_ ≠ gb437 ∧ k_ ≠ gb446 ∧ k_ ≠ g) k_ from fun k_ hk => ⟨(Nat.le_trans (kS HK.out) hk), fB BK437.out hk, fB BK446.out hk, IsS116.fresh (mI116_1 HI0.out) k_ hk⟩) _ (Nat.le_refl _)) (Below.refl _ _) (Nat.le_refl _) (by simp) ?_; (case hd => rfl); (case hg => rfl); (case hr => first | (go_simp; done) | (go_simp; rfl)); (case hp => exact (Reps.c5 (show Kd.FK k46 _ _ (⟨x447000_1, x447001_1, (⟨x447002_1, x447003_1⟩ : S37), x447004_1⟩ : S46) [.int .i64 x447000_1, .int .i64 x447001_1, .int .i64 x447002_1, .int .i64 x447003_1, .slice Ao48 x447004_1.length co48] from (k46_mkF _ _ (⟨x447000_1, x447001_1, (⟨x447002_1, x447003_1⟩ : S37), x447004_1⟩ : S46) (Kd.N_reads' (Kd.N_mono (ok' := (fun k_ => (w.heap.size ≤ k_) ∧ k_ ≠ gb437 ∧ k_ ≠ gb446 ∧ k_ ≠ g)) (HO_447004.out) (fun k_ hk => ⟨hk.1, ⟨hk.2.1, ⟨hk.2.2.1, hk.2.2.2⟩⟩⟩))).2.1 (Kd.N_F (Kd.N_mono (ok' := (fun k_ => (w.heap.size ≤ k_) ∧ k_ ≠ gb437 ∧ k_ ≠ gb446 ∧ k_ ≠ g)) (HO_447004.out) (fun k_ hk => ⟨hk.1, ⟨hk.2.1, ⟨hk.2.2.1, hk.2.2.2⟩⟩⟩))))) (Reps.none _ _))); intro v463 w49 ho50 hb hg_ hnew_; clear hg_ hnew_; (first | rw [← Ny462.out] at ho50 | (simp only [Int.reduceToNat] at ho50; rw [← Ny462.out] at ho50)); have n_ := az (Kd.N_lower ho50 (kS HK.out)) <| az (bB BK437.out hb) <| az (bB BK446.out hb) <| az (IsS116.below (mI116_1 HI0.out) hb) <| az (KeepBut.trans (mKp HK.out) (KeepBut.of_below hb g none) (.inl rfl)) <| z0 (below_step (mB116HI0 HB.out) hb); clear BK437 BK446 HI0 HK HB HO_447004; obtain ⟨HO464, BK437, BK446, HI0, HK, HB⟩ := n_; clear hb ho50; obtain ⟨Ao51, co51, eo51⟩ := Kd.N_slice HO464.out; subst eo51; obtain ⟨hcz52_0, hcz52_1, hcz52_2, hcz52_3, hcz52_4, hfz52_0, hfz52_1, hfz52_2, hfz52_3, hfz52_4⟩ := cel5 BK446.out))
        go_roundg k1
        case measure => have := HK1.out; omega
        case rel => exact ⟨(wrap64 (x4_1 + 1)), (10), (0), (0), (0), (y462), (.slice Ao51 y462.length co51), rfy, H', ⟨by have := HK1.out; omega⟩, ⟨by (with_reducible repeat (first | apply Kd.N_alloc | apply Kd.N_drewN | apply Kd.N_drew)); exact Kd.N_mono (Kd.N_far (p := ⟨gb446, 4, none⟩) (Kd.N_far (p := ⟨gb446, 3, none⟩) (Kd.N_far (p := ⟨gb446, 2, none⟩) (Kd.N_far (p := ⟨gb446, 1, none⟩) (Kd.N_far (p := ⟨gb446, 0, none⟩) (Kd.N_mono HO464.out (fun k_ hk => (⟨hk, hk.2.2.1⟩ : _ ∧ k_ ≠ gb446))) (fun _ hk => hk.2) (.int .i64 10)) (fun _ hk => hk.2) (.int .i64 0)) (fun _ hk => hk.2) (.int .i64 0)) (fun _ hk => hk.2) (.int .i64 0)) (fun _ hk => hk.2) (.slice Ao51 y462.length co51)) (fun _ hk => ⟨hk.1.1, ⟨hk.1.2.1, ⟨hk.1.2.2.1, hk.1.2.2.2⟩⟩⟩)⟩, ⟨mF BK437.out⟩, ⟨by (with_reducible repeat (first | refine blk_drewN ?_ _ | refine blk_drew ?_ | refine blk_alloc ?_ _)); refine blk_put (cs := #[.int .i64 10, .int .i64 0, .int .i64 0, .int .i64 0, .slice Ao48 x447004_1.length co48]) ?_ 4 _ rfl; (with_reducible repeat (first | refine blk_drewN ?_ _ | refine blk_drew ?_ | refine blk_alloc ?_ _)); refine blk_put (cs := #[.int .i64 10, .int .i64 0, .int .i64 0, .int .i64 x447003_1, .slice Ao48 x447004_1.length co48]) ?_ 3 _ rfl; (with_reducible repeat (first | refine blk_drewN ?_ _ | refine blk_drew ?_ | refine blk_alloc ?_ _)); refine blk_put (cs := #[.int .i64 10, .int .i64 0, .int .i64 x447002_1, .int .i64 x447003_1, .slice Ao48 x447004_1.length co48]) ?_ 2 _ rfl; (with_reducible repeat (first | refine blk_drewN ?_ _ | refine blk_drew ?_ | refine blk_alloc ?_ _)); refine blk_put (cs := #[.int .i64 10, .int .i64 x447001_1, .int .i64 x447002_1, .int .i64 x447003_1, .slice Ao48 x447004_1.length co48]) ?_ 1 _ rfl; (with_reducible repeat (first | refine blk_drewN ?_ _ | refine blk_drew ?_ | refine blk_alloc ?_ _)); refine blk_put (cs := #[.int .i64 x447000_1, .int .i64 x447001_1, .int .i64 x447002_1, .int .i64 x447003_1, .slice Ao48 x447004_1.length co48]) ?_ 0 _ rfl; (with_reducible repeat (first | refine blk_drewN ?_ _ | refine blk_drew ?_ | refine blk_alloc ?_ _)); exact BK446.out⟩, ⟨mI116_1 HI0.out⟩, ⟨mKp HK.out⟩, ⟨mB116HI0 HB.out⟩⟩
       ·rw [if_neg c44] at H
        have c44b0 : decide (x4_1 < 6) = false := decide_eq_false c44
        clear c44
        simp only [Option.some.injEq, Prod.mk.injEq] at H
        obtain ⟨rfl, rfl, rfl, rfl, rfl, rfl⟩ := H
        have hnb53 := NB446_437.out
        have hnc53 := NB437_446.out
        have hnb54 := NB446_0.out
        have hnc54 := NB0_446.out
        obtain ⟨hcz55_0, hcz55_1, hcz55_2, hcz55_3, hcz55_4, hfz55_0, hfz55_1, hfz55_2, hfz55_3, hfz55_4⟩ := cel5 BK446.out
        have hnb56 := NB437_0.out
        have hnc56 := NB0_437.out
        obtain ⟨hcz57_0, hcz57_1, hcz57_2, hcz57_3, hcz57_4, hfz57_0, hfz57_1, hfz57_2, hfz57_3, hfz57_4⟩ := cel5 BK437.out
        obtain ⟨Ao58, co58, eo58⟩ := Kd.N_slice HO_447004.out
        subst eo58
        go_wp2
        refine bodyPost_ret (results_cell_row rfl _ _ gb437 46 #[.int .i64 x447000_1, .int .i64 x447001_1, .int .i64 x447002_1, .int .i64 x447003_1, .slice Ao58 x447004_1.length co58] (0, 0) _ rfl (pF BK437.out) Try.underlying46 rfl (by kernel_rfl)) rfl ?_
        exact ⟨_, rfx, by (with_reducible repeat (first | apply Kd.N_alloc | apply Kd.N_drewN | apply Kd.N_drew)); exact Kd.N_mono (Kd.N_far (p := ⟨gb437, 4, none⟩) (Kd.N_far (p := ⟨gb437, 3, none⟩) (Kd.N_far (p := ⟨gb437, 2, none⟩) (Kd.N_far (p := ⟨gb437, 1, none⟩) (Kd.N_far (p := ⟨gb437, 0, none⟩) (Kd.N_mono HO_447004.out (fun k_ hk => (⟨hk, hk.2.1⟩ : _ ∧ k_ ≠ gb437))) (fun _ hk => hk.2) (.int .i64 x447000_1)) (fun _ hk => hk.2) (.int .i64 x447001_1)) (fun _ hk => hk.2) (.int .i64 x447002_1)) (fun _ hk => hk.2) (.int .i64 x447003_1)) (fun _ hk => hk.2) (.slice Ao58 x447004_1.length co58)) (fun _ hk => hk.1.1), mI116_1 HI0.out, mB116HI0 HB.out, mKp HK.out⟩
    ·rw [if_neg c43] at H
     have c43b0 : (t447 == 3) = false := beq_eq_false_iff_ne.mpr c43
     have c43b1 : (t447 != 3) = true := bne_iff_ne.mpr c43
     by_cases c59 : t447 = 4
     ·rw [if_pos c59] at H
      have c59b0 : (t447 == 4) = true := beq_iff_eq.mpr c59
      have c59b1 : (t447 != 4) = false := bne_eq_false_iff_eq.mpr c59
      clear c59
      have H' := z0 H
      clear H
      go_wp2
      go_loopg [5] k (fun kq v5 w' => ∃ (x5_1 : Int) (x447000_1 : Int) (x447001_1 : Int) (x447002_1 : Int) (x447003_1 : Int) (x447004_1 : List (S46)) (u447004 : Value), v5 = .int .i64 x5_1 ∧ Aside0 (spec_l3Bent.l1 kq x5_1 s0_0 t448 x447000_1 x447001_1 x447002_1 x447003_1 x447004_1 = some (r1, r2, r3, r4, r5, r6)) ∧ Aside0 (kq ≤ k) ∧ Aside0 (Kd.N k46 46 w' w.heap.size (fun k_ => (w.heap.size ≤ k_) ∧ k_ ≠ gb437 ∧ k_ ≠ gb446 ∧ k_ ≠ g) u447004 x447004_1) ∧ Aside0 (w'.heap[gb437]? = some (.cells #[.int .i64 0, .int .i64 0, .int .i64 0, .int .i64 0, (.slice none 0 0)] 46 (0, 0))) ∧ Aside0 (w'.heap[gb446]? = some (.cells #[.int .i64 x447000_1, .int .i64 x447001_1, .int .i64 x447002_1, .int .i64 x447003_1, u447004] 46 (0, 0))) ∧ Aside0 (IsS116 w0 w' g s0_0 t448) ∧ Aside0 (KeepBut w w' g none) ∧ Aside0 (Below w0.heap.size w0 w'))
      case atStart => exact ⟨(0), (t438), (t439), (t440), (t441), (t442), (.slice Ao11 t442.length co11), rfy, H', ⟨Nat.le_refl _⟩, ⟨by (with_reducible repeat (first | apply Kd.N_alloc | apply Kd.N_drewN | apply Kd.N_drew)); exact Kd.N_mono HO444.out (fun _ hk => ⟨hk.1.1, ⟨hk.1.2.1, ⟨hk.2, hk.1.2.2⟩⟩⟩)⟩, ⟨mK BK437.out⟩, ⟨mK BK446.out⟩, ⟨mI116_1 HI0.out⟩, ⟨mKp HK.out⟩, ⟨mB116HI0 HB.out⟩⟩
      case round =>
       clear H'
       (try clear c13); (try clear c13b0); (try clear c13b1); (try clear c24); (try clear c24b0); (try clear c24b1); (try clear c35); (try clear c35b0); (try clear c35b1); (try clear c43); (try clear c43b0); (try clear c43b1); (try clear c59); (try clear c59b0); (try clear c59b1); (try clear hcz10_0); (try clear hcz10_1); (try clear hcz10_2); (try clear hcz10_3); (try clear hcz10_4); (try clear hcz21_0); (try clear hcz21_1); (try clear hcz21_2); (try clear hcz21_3); (try clear hcz21_4); (try clear hcz23_0); (try clear hcz23_1); (try clear hcz23_2); (try clear hcz23_3); (try clear hcz23_4); (try clear hcz32_0); (try clear hcz32_1); (try clear hcz32_2); (try clear hcz32_3); (try clear hcz32_4); (try clear hcz34_0); (try clear hcz34_1); (try clear hcz34_2); (try clear hcz34_3); (try clear hcz34_4); (try clear hcz40_0); (try clear hcz40_1); (try clear hcz40_2); (try clear hcz40_3); (try clear hcz40_4); (try clear hcz42_0); (try clear hcz42_1); (try clear hcz42_2); (try clear hcz42_3); (try clear hcz42_4); (try clear hfz10_0); (try clear hfz10_1); (try clear hfz10_2); (try clear hfz10_3); (try clear hfz10_4); (try clear hfz21_0); (try clear hfz21_1); (try clear hfz21_2); (try clear hfz21_3); (try clear hfz21_4); (try clear hfz23_0); (try clear hfz23_1); (try clear hfz23_2); (try clear hfz23_3); (try clear hfz23_4); (try clear hfz32_0); (try clear hfz32_1); (try clear hfz32_2); (try clear hfz32_3); (try clear hfz32_4); (try clear hfz34_0); (try clear hfz34_1); (try clear hfz34_2); (try clear hfz34_3); (try clear hfz34_4); (try clear hfz40_0); (try clear hfz40_1); (try clear hfz40_2); (try clear hfz40_3); (try clear hfz40_4); (try clear hfz42_0); (try clear hfz42_1); (try clear hfz42_2); (try clear hfz42_3); (try clear hfz42_4)
       obtain ⟨x5_1, x447000_1, x447001_1, x447002_1, x447003_1, x447004_1, u447004, rfl, HA, HK1, HO_447004, BK437, BK446, HI0, HK, HB⟩ := hrel
       cases gk with
       | zero => exact absurd HA.out (by simp [spec_l3Bent.l1])
       | succ k1 =>
        have H := HA.out
        clear HA
        simp only [spec_l3Bent.l1] at H
        by_cases c60 : x5_1 < 4
        ·rw [if_pos c60] at H
         have c60b0 : decide (x5_1 < 4) = true := decide_eq_true c60
         clear c60
         replace H := Option.bind_eq_some_iff.mp H
         obtain ⟨⟨t465, t466, t467, t468, t469⟩, A610, H⟩ := H
         try dsimp only at H
         have A61 := z0 A610
         clear A610
         obtain ⟨y472, hy472⟩ : ∃ y_ : List (S46), y_ = (([(⟨x447000_1, x447001_1, (⟨x447002_1, x447003_1⟩ : S37), x447004_1⟩ : S46), (⟨t465, t466, (⟨t467, t468⟩ : S37), t469⟩ : S46)] : List (S46))) := ⟨_, rfl⟩
         replace H : (spec_l3Bent.l1 k1 (wrap64 (x5_1 + 1)) s0_0 t448 3 0 0 0 y472) = some (r1, r2, r3, r4, r5, r6) := by first | (rw [hy472]; with_reducible exact H) | (have H2_ := (Option.bind_some _ _).symm.trans H; rw [hy472]; with_reducible exact H2_) | (have H2_ := (Option.bind_some _ _).symm.trans H; with_reducible exact H2_) | with_reducible exact H | (rw [hy472]; exact H) | exact H
         have Ny472 := z0 hy472
         clear hy472
         have H' := z0 H
         clear H
         try go_wp2
         have n_ := az (Kd.N_drew HO_447004.out) <| az (blk_drew BK437.out) <| az (blk_drew BK446.out) <| az (IsS116.drew HI0.out) <| az (keep_drew HK.out) <| z0 (below_drew1 HB.out)
         clear HO_447004 BK437 BK446 HI0 HK HB
         obtain ⟨HO_447004, BK437, BK446, HI0, HK, HB⟩ := n_
         obtain ⟨Ao63, co63, eo63⟩ := Kd.N_slice HO_447004.out
         (first | subst eo63 | (injection eo63 with f1_ f2_ f3_; have f4_ := f1_.symm; have f5_ := f3_.symm; clear f1_ f2_ f3_; subst f4_; subst f5_))
         refine start_ (n := 6) (S := fun w' => w'.cell? ⟨gb446, 0, none⟩ = some (.int .i64 x447000_1) ∧ w'.cell? ⟨gb446, 1, none⟩ = some (.int .i64 x447001_1) ∧ w'.cell? ⟨gb446, 2, none⟩ = some (.int .i64 x447002_1) ∧ w'.cell? ⟨gb446, 3, none⟩ = some (.int .i64 x447003_1) ∧ w'.cell? ⟨gb446, 4, none⟩ = some (.slice Ao63 x447004_1.length co63)) (ds := [5]) #[false, false, false, false, false, false] (by kernel_rfl) rfl rfl ⟨(blk_cell BK446.out 0).trans rfl, (blk_cell BK446.out 1).trans rfl, (blk_cell BK446.out 2).trans rfl, (blk_cell BK446.out 3).trans rfl, (blk_cell BK446.out 4).trans rfl⟩ (fun hHeld => ?_)
         generalize wr.drew = w62 at HO_447004 BK437 BK446 HI0 HK HB hHeld ⊢
         refine take_ (i := 0) (N := some 42) (v := ?_) (a' := ?_) #[true, false, false, false, false, false] rfl rfl (by kernel_rfl) (fun _ _ _ h => h) (Or.inl ⟨by rfl, ?_⟩) hHeld ?_ ?_
         rotate_left
         ·rintro w' ⟨s0, s1, s2, s3, s4⟩
          go_simp
          with_reducible rfl
         rotate_left
         ·simp only [Act.put, List.setIfInBounds_toArray, List.set_cons_zero, List.set_cons_succ, i64_w, i32_w]
          rfl
         refine take_ (i := 1) (N := some 43) (v := ?_) (a' := ?_) #[true, true, false, false, false, false] rfl rfl (by kernel_rfl) (fun _ _ _ h => h) (Or.inl ⟨by rfl, ?_⟩) hHeld ?_ ?_
         rotate_left
         ·rintro w' ⟨s0, s1, s2, s3, s4⟩
          go_simp
          with_reducible rfl
         rotate_left
         ·simp only [Act.put, List.setIfInBounds_toArray, List.set_cons_zero, List.set_cons_succ, i64_w, i32_w]
          rfl
         refine one_ (i := 2) (N := some 44) #[true, true, true, false, false, false] rfl rfl (by kernel_rfl) (by decide) (fun K hK => ?_)
         refine goes_ Try.func56 (by kernel_rfl) rfl #[.agg #[.int .i64 x447000_1, .int .i64 x447001_1, .int .i64 x447002_1, .int .i64 x447003_1, .slice Ao63 x447004_1.length co63]] (by rfl) rfl rfl argx ?_
         with_reducible refine (spec_l3Copy.calls k1 x447000_1 x447001_1 x447002_1 x447003_1 _ _ x447004_1 t465 t466 t467 t468 t469 _ ?side1 ?side2 A61.out).mono ?_
         (case side1 => exact mC (Kd.N_reads' HO_447004.out).2.2)
         (case side2 => exact (Kd.N_reads' HO_447004.out).2.1)
         rintro e w64 ⟨v470, rfl, ho0, hb⟩
         refine ⟨_, rfl, ?_⟩
         have n_ := az (Kd.N_elder' (mN HO_447004.out) (by first | exact Kd.N_base ho0 | exact Kd.R_base ho0) hb) <| And.intro (z0 (Kd.N_lower (Kd.N_mono (ok' := fun k_ => (w.heap.size ≤ k_) ∧ nB k_ (.slice Ao63 x447004_1.length co63) ∧ k_ ≠ gb437 ∧ k_ ≠ gb446 ∧ k_ ≠ g) (Kd.R_N (Kd.R_bound ho0)) (fun k_ hk_ => ⟨(Nat.le_trans (kS HK.out) hk_.2.1), (Kd.fresh' (Kd.N_lt (mN HO_447004.out)) k_ hk_.2.1), (fB BK437.out hk_.2.1), (fB BK446.out hk_.2.1), (IsS116.fresh (mI116_1 HI0.out) k_ hk_.2.1)⟩)) (kS HK.out))) <| az (bB BK437.out hb) <| az (bB BK446.out hb) <| az (IsS116.below (mI116_1 HI0.out) hb) <| az (KeepBut.trans (mKp HK.out) (KeepBut.of_below hb g none) (.inl rfl)) <| z0 (below_step (mB116HI0 HB.out) hb)
         clear HO_447004 BK437 BK446 HI0 HK HB
         obtain ⟨HO_447004, HO471, BK437, BK446, HI0, HK, HB⟩ := n_
         (try clear hb)
         (try clear hb2)
         (try clear hk)
         (try clear hi)
         (try clear ho0)
         obtain ⟨Ao65, co65, eo65⟩ := Kd.N_slice HO471.out
         (first | subst eo65 | (injection eo65 with f1_ f2_ f3_; have f4_ := f1_.symm; have f5_ := f3_.symm; clear f1_ f2_ f3_; subst f4_; subst f5_))
         refine hK.out _ _ ⟨(blk_cell BK446.out 0).trans rfl, (blk_cell BK446.out 1).trans rfl, (blk_cell BK446.out 2).trans rfl, (blk_cell BK446.out 3).trans rfl, (blk_cell BK446.out 4).trans rfl⟩ (fun hHeld => ?_)
         clear hK K
         refine norm_ (a' := ?_) ?_ ?_
         rotate_left
         ·show Act.put _ (some 44) _ = _
          simp only [Act.put, List.setIfInBounds_toArray, List.set_cons_zero, List.set_cons_succ, i64_w, i32_w]
          rfl
         refine one_ (i := 3) (N := some 45) #[true, true, true, true, false, false] rfl rfl (by kernel_rfl) (by decide) (fun K hK => ?_)
         refine Kd.N_lit_step k46 _ 46 ?hg (N' := 45) ?hd (xs := ([(⟨x447000_1, x447001_1, (⟨x447002_1, x447003_1⟩ : S37), x447004_1⟩ : S46), (⟨t465, t466, (⟨t467, t468⟩ : S37), t469⟩ : S46)] : List (S46))) (inner := [.int .i64 x447000_1, .int .i64 x447001_1, .int .i64 x447002_1, .int .i64 x447003_1, .slice Ao63 x447004_1.length co63, .int .i64 t465, .int .i64 t466, .int .i64 t467, .int .i64 t468, .slice Ao65 t469.length co65]) (ok := (fun k_ => (w.heap.size ≤ k_) ∧ k_ ≠ gb437 ∧ k_ ≠ gb446 ∧ k_ ≠ g)) (okp := (fun k_ => (w.heap.size ≤ k_) ∧ k_ ≠ gb437 ∧ k_ ≠ gb446 ∧ k_ ≠ g)) ?hr ?hp (fun _ hk => hk) ((show ∀ k_, w64.heap.size ≤ k_ → (fun k_ => (w.heap.size ≤ k_) ∧ k_ ≠ gb437 ∧ k_ ≠ gb446 ∧ k_ ≠ g) k_ from fun k_ hk => ⟨(Nat.le_trans (kS HK.out) hk), fB BK437.out hk, fB BK446.out hk, IsS116.fresh (mI116_1 HI0.out) k_ hk⟩) _ (Nat.le_refl _)) (Below.refl _ _) (Nat.le_refl _) (by simp) ?_; (case hd => rfl); (case hg => rfl); (case hr => first | (go_simp; done) | (go_simp; rfl)); (case hp => exact (Reps.c5 (show Kd.FK k46 _ _ (⟨x447000_1, x447001_1, (⟨x447002_1, x447003_1⟩ : S37), x447004_1⟩ : S46) [.int .i64 x447000_1, .int .i64 x447001_1, .int .i64 x447002_1, .int .i64 x447003_1, .slice Ao63 x447004_1.length co63] from (k46_mkF _ _ (⟨x447000_1, x447001_1, (⟨x447002_1, x447003_1⟩ : S37), x447004_1⟩ : S46) (Kd.N_reads' (Kd.N_mono (ok' := (fun k_ => (w.heap.size ≤ k_) ∧ k_ ≠ gb437 ∧ k_ ≠ gb446 ∧ k_ ≠ g)) (HO_447004.out) (fun k_ hk => ⟨hk.1.1, ⟨hk.1.2.1, ⟨hk.1.2.2.1, hk.1.2.2.2⟩⟩⟩))).2.1 (Kd.N_F (Kd.N_mono (ok' := (fun k_ => (w.heap.size ≤ k_) ∧ k_ ≠ gb437 ∧ k_ ≠ gb446 ∧ k_ ≠ g)) (HO_447004.out) (fun k_ hk => ⟨hk.1.1, ⟨hk.1.2.1, ⟨hk.1.2.2.1, hk.1.2.2.2⟩⟩⟩))))) (Reps.c5 (show Kd.FK k46 _ _ (⟨t465, t466, (⟨t467, t468⟩ : S37), t469⟩ : S46) [.int .i64 t465, .int .i64 t466, .int .i64 t467, .int .i64 t468, .slice Ao65 t469.length co65] from (k46_mkF _ _ (⟨t465, t466, (⟨t467, t468⟩ : S37), t469⟩ : S46) (Kd.N_reads' (Kd.N_mono (ok' := (fun k_ => (w.heap.size ≤ k_) ∧ k_ ≠ gb437 ∧ k_ ≠ gb446 ∧ k_ ≠ g)) (HO471.out) (fun k_ hk => ⟨hk.1, ⟨hk.2.2.1, ⟨hk.2.2.2.1, hk.2.2.2.2⟩⟩⟩))).2.1 (Kd.N_F (Kd.N_mono (ok' := (fun k_ => (w.heap.size ≤ k_) ∧ k_ ≠ gb437 ∧ k_ ≠ gb446 ∧ k_ ≠ g)) (HO471.out) (fun k_ hk => ⟨hk.1, ⟨hk.2.2.1, ⟨hk.2.2.2.1, hk.2.2.2.2⟩⟩⟩))))) (Reps.none _ _))))
         intro v473 w66 ho67 hb hg_ hnew_
         clear hg_ hnew_
         (first | rw [← Ny472.out] at ho67 | (simp only [Int.reduceToNat] at ho67; rw [← Ny472.out] at ho67))
         have n_ := az (Kd.N_lower ho67 (kS HK.out)) <| az (bB BK437.out hb) <| az (bB BK446.out hb) <| az (IsS116.below (mI116_1 HI0.out) hb) <| az (KeepBut.trans (mKp HK.out) (KeepBut.of_below hb g none) (.inl rfl)) <| z0 (below_step (mB116HI0 HB.out) hb)
         clear BK437 BK446 HI0 HK HB HO471 HO_447004
         obtain ⟨HO474, BK437, BK446, HI0, HK, HB⟩ := n_
         clear hb ho67
         obtain ⟨Ao68, co68, eo68⟩ := Kd.N_slice HO474.out
         (first | subst eo68 | (injection eo68 with f1_ f2_ f3_; have f4_ := f1_.symm; have f5_ := f3_.symm; clear f1_ f2_ f3_; subst f4_; subst f5_))
         refine hK.out _ _ ⟨(blk_cell BK446.out 0).trans rfl, (blk_cell BK446.out 1).trans rfl, (blk_cell BK446.out 2).trans rfl, (blk_cell BK446.out 3).trans rfl, (blk_cell BK446.out 4).trans rfl⟩ (fun hHeld => ?_)
         clear hK K
         refine norm_ (a' := ?_) ?_ ?_
         rotate_left
         ·show Act.put _ (some 45) _ = _
          simp only [Act.put, List.setIfInBounds_toArray, List.set_cons_zero, List.set_cons_succ, i64_w, i32_w]
          rfl
         refine pure_ (i := 4) (N := some 46) (v := ?_) (a' := ?_) #[true, true, true, true, true, false] rfl rfl (by kernel_rfl) (fun _ _ _ h => h) (Or.inl ⟨by rfl, ?_⟩) ?_ ?_
         rotate_left
         ·intro w'
          go_simp
          with_reducible rfl
         rotate_left
         ·simp only [Act.put, List.setIfInBounds_toArray, List.set_cons_zero, List.set_cons_succ, i64_w, i32_w]
          rfl
         refine last_ (i := 5) (N := none) #[true, true, true, true, true, true] rfl rfl (by kernel_rfl) (by decide) (fun K hK => ?_)
         have hs69 : w66.cell? ⟨gb446, 0, none⟩ = some (.int .i64 x447000_1) := (blk_cell BK446.out 0).trans rfl
         have hfs69 := blk_frozen BK446.out 0
         have hns69_0 := NB437_446.out
         have hms69_0 := NB446_437.out
         have hs70 : w66.cell? ⟨gb446, 1, none⟩ = some (.int .i64 x447001_1) := (blk_cell BK446.out 1).trans rfl
         have hfs70 := blk_frozen BK446.out 1
         have hns70_0 := NB437_446.out
         have hms70_0 := NB446_437.out
         have hs71 : w66.cell? ⟨gb446, 2, none⟩ = some (.int .i64 x447002_1) := (blk_cell BK446.out 2).trans rfl
         have hfs71 := blk_frozen BK446.out 2
         have hns71_0 := NB437_446.out
         have hms71_0 := NB446_437.out
         have hs72 : w66.cell? ⟨gb446, 3, none⟩ = some (.int .i64 x447003_1) := (blk_cell BK446.out 3).trans rfl
         have hfs72 := blk_frozen BK446.out 3
         have hns72_0 := NB437_446.out
         have hms72_0 := NB446_437.out
         have hs73 : w66.cell? ⟨gb446, 4, none⟩ = some (.slice Ao63 x447004_1.length co63) := (blk_cell BK446.out 4).trans rfl
         have hfs73 := blk_frozen BK446.out 4
         have hns73_0 := NB437_446.out
         have hms73_0 := NB446_437.out
         refine skip_ (w1 := ?_) (by rfl) rfl ?_ ?_
         rotate_left
         ·go_simp
          rfl
         refine hK.out _ _ ?_
         clear hK K
         refine done_ (by kernel_rfl) ?_
         try go_wp2
         go_roundg k1
         case measure => have := HK1.out; omega
         case rel => exact ⟨(wrap64 (x5_1 + 1)), (3), (0), (0), (0), (y472), (.slice Ao68 y472.length co68), rfy, H', ⟨by have := HK1.out; omega⟩, ⟨by (with_reducible repeat (first | apply Kd.N_alloc | apply Kd.N_drewN | apply Kd.N_drew)); exact Kd.N_mono (Kd.N_far (p := ⟨gb446, 4, none⟩) (Kd.N_far (p := ⟨gb446, 3, none⟩) (Kd.N_far (p := ⟨gb446, 2, none⟩) (Kd.N_far (p := ⟨gb446, 1, none⟩) (Kd.N_far (p := ⟨gb446, 0, none⟩) (Kd.N_mono HO474.out (fun k_ hk => (⟨hk, hk.2.2.1⟩ : _ ∧ k_ ≠ gb446))) (fun _ hk => hk.2) (.int .i64 3)) (fun _ hk => hk.2) (.int .i64 0)) (fun _ hk => hk.2) (.int .i64 0)) (fun _ hk => hk.2) (.int .i64 0)) (fun _ hk => hk.2) (.slice Ao68 y472.length co68)) (fun _ hk => ⟨hk.1.1, ⟨hk.1.2.1, ⟨hk.1.2.2.1, hk.1.2.2.2⟩⟩⟩)⟩, ⟨mF BK437.out⟩, ⟨by (with_reducible repeat (first | refine blk_drewN ?_ _ | refine blk_drew ?_ | refine blk_alloc ?_ _)); refine blk_put (cs := #[.int .i64 3, .int .i64 0, .int .i64 0, .int .i64 0, .slice Ao63 x447004_1.length co63]) ?_ 4 _ rfl; (with_reducible repeat (first | refine blk_drewN ?_ _ | refine blk_drew ?_ | refine blk_alloc ?_ _)); refine blk_put (cs := #[.int .i64 3, .int .i64 0, .int .i64 0, .int .i64 x447003_1, .slice Ao63 x447004_1.length co63]) ?_ 3 _ rfl; (with_reducible repeat (first | refine blk_drewN ?_ _ | refine blk_drew ?_ | refine blk_alloc ?_ _)); refine blk_put (cs := #[.int .i64 3, .int .i64 0, .int .i64 x447002_1, .int .i64 x447003_1, .slice Ao63 x447004_1.length co63]) ?_ 2 _ rfl; (with_reducible repeat (first | refine blk_drewN ?_ _ | refine blk_drew ?_ | refine blk_alloc ?_ _)); refine blk_put (cs := #[.int .i64 3, .int .i64 x447001_1, .int .i64 x447002_1, .int .i64 x447003_1, .slice Ao63 x447004_1.length co63]) ?_ 1 _ rfl; (with_reducible repeat (first | refine blk_drewN ?_ _ | refine blk_drew ?_ | refine blk_alloc ?_ _)); refine blk_put (cs := #[.int .i64 x447000_1, .int .i64 x447001_1, .int .i64 x447002_1, .int .i64 x447003_1, .slice Ao63 x447004_1.length co63]) ?_ 0 _ rfl; (with_reducible repeat (first | refine blk_drewN ?_ _ | refine blk_drew ?_ | refine blk_alloc ?_ _)); exact BK446.out⟩, ⟨mI116_1 HI0.out⟩, ⟨mKp HK.out⟩, ⟨mB116HI0 HB.out⟩⟩
        ·rw [if_neg c60] at H
         have c60b0 : decide (x5_1 < 4) = false := decide_eq_false c60
         clear c60
         simp only [Option.some.injEq, Prod.mk.injEq] at H
         obtain ⟨rfl, rfl, rfl, rfl, rfl, rfl⟩ := H
         have hnb74 := NB446_437.out
         have hnc74 := NB437_446.out
         have hnb75 := NB446_0.out
         have hnc75 := NB0_446.out
         obtain ⟨hcz76_0, hcz76_1, hcz76_2, hcz76_3, hcz76_4, hfz76_0, hfz76_1, hfz76_2, hfz76_3, hfz76_4⟩ := cel5 BK446.out
         have hnb77 := NB437_0.out
         have hnc77 := NB0_437.out
         obtain ⟨hcz78_0, hcz78_1, hcz78_2, hcz78_3, hcz78_4, hfz78_0, hfz78_1, hfz78_2, hfz78_3, hfz78_4⟩ := cel5 BK437.out
         obtain ⟨Ao79, co79, eo79⟩ := Kd.N_slice HO_447004.out
         subst eo79
         go_wp2
         refine bodyPost_ret (results_cell_row rfl _ _ gb437 46 #[.int .i64 x447000_1, .int .i64 x447001_1, .int .i64 x447002_1, .int .i64 x447003_1, .slice Ao79 x447004_1.length co79] (0, 0) _ rfl (pF BK437.out) Try.underlying46 rfl (by kernel_rfl)) rfl ?_
         exact ⟨_, rfx, by (with_reducible repeat (first | apply Kd.N_alloc | apply Kd.N_drewN | apply Kd.N_drew)); exact Kd.N_mono (Kd.N_far (p := ⟨gb437, 4, none⟩) (Kd.N_far (p := ⟨gb437, 3, none⟩) (Kd.N_far (p := ⟨gb437, 2, none⟩) (Kd.N_far (p := ⟨gb437, 1, none⟩) (Kd.N_far (p := ⟨gb437, 0, none⟩) (Kd.N_mono HO_447004.out (fun k_ hk => (⟨hk, hk.2.1⟩ : _ ∧ k_ ≠ gb437))) (fun _ hk => hk.2) (.int .i64 x447000_1)) (fun _ hk => hk.2) (.int .i64 x447001_1)) (fun _ hk => hk.2) (.int .i64 x447002_1)) (fun _ hk => hk.2) (.int .i64 x447003_1)) (fun _ hk => hk.2) (.slice Ao79 x447004_1.length co79)) (fun _ hk => hk.1.1), mI116_1 HI0.out, mB116HI0 HB.out, mKp HK.out⟩
     ·rw [if_neg c59] at H
      have c59b0 : (t447 == 4) = false := beq_eq_false_iff_ne.mpr c59
      have c59b1 : (t447 != 4) = true := bne_iff_ne.mpr c59
      simp only [Option.some.injEq, Prod.mk.injEq] at H
      obtain ⟨rfl, rfl, rfl, rfl, rfl, rfl⟩ := H
      have hnb80 := NB446_437.out
      have hnc80 := NB437_446.out
      have hnb81 := NB446_0.out
      have hnc81 := NB0_446.out
      obtain ⟨hcz82_0, hcz82_1, hcz82_2, hcz82_3, hcz82_4, hfz82_0, hfz82_1, hfz82_2, hfz82_3, hfz82_4⟩ := cel5 BK446.out
      have hnb83 := NB437_0.out
      have hnc83 := NB0_437.out
      obtain ⟨hcz84_0, hcz84_1, hcz84_2, hcz84_3, hcz84_4, hfz84_0, hfz84_1, hfz84_2, hfz84_3, hfz84_4⟩ := cel5 BK437.out
      go_wp2
      refine bodyPost_ret (results_cell_row rfl _ _ gb437 46 #[.int .i64 t438, .int .i64 t439, .int .i64 t440, .int .i64 t441, .slice Ao11 t442.length co11] (0, 0) _ rfl (pF BK437.out) Try.underlying46 rfl (by kernel_rfl)) rfl ?_
      exact ⟨_, rfx, by (with_reducible repeat (first | apply Kd.N_alloc | apply Kd.N_drewN | apply Kd.N_drew)); exact Kd.N_mono (Kd.N_far (p := ⟨gb437, 4, none⟩) (Kd.N_far (p := ⟨gb437, 3, none⟩) (Kd.N_far (p := ⟨gb437, 2, none⟩) (Kd.N_far (p := ⟨gb437, 1, none⟩) (Kd.N_far (p := ⟨gb437, 0, none⟩) (Kd.N_mono HO444.out (fun k_ hk => (⟨hk, hk.1.2.1⟩ : _ ∧ k_ ≠ gb437))) (fun _ hk => hk.2) (.int .i64 t438)) (fun _ hk => hk.2) (.int .i64 t439)) (fun _ hk => hk.2) (.int .i64 t440)) (fun _ hk => hk.2) (.int .i64 t441)) (fun _ hk => hk.2) (.slice Ao11 t442.length co11)) (fun _ hk => hk.1.1.1), mI116_1 HI0.out, mB116HI0 HB.out, mKp HK.out⟩

/-! ### spec_l2To: function 77 -/
def spec_l2To.f (k : Nat) (s0_0 : List Int) (s0_1 : Int) : Option (Int × Int × Int) := (spec_l12Rd_pick.f k s0_0 s0_1 2).bind fun bt476 => ((spec_l12Rd_pick.f k s0_0 bt476.2 3).bind fun bt478 => (some (wrap64 (2 + bt476.1), bt478.1, bt478.2)))
set_option maxHeartbeats 8000000 in
set_option maxRecDepth 100000 in
theorem spec_l2To.calls (k : Nat) (g : Nat) (s0_0 : List Int) (s0_1 : Int) (r1 : Int) (r2 : Int) (r3 : Int) (w0 w : World) (hI : IsS116 w0 w g s0_0 s0_1) (hB : Below w0.heap.size w0 w) (h : spec_l2To.f k s0_0 s0_1 = some (r1, r2, r3)) :
  Calls Try.prog 77 #[.pointer (some ⟨g, 0, none⟩)] w fun e w' => e = .returned (.agg #[.int .i64 r1, .int .i64 r2]) ∧ IsS116 w0 w' g s0_0 r3 ∧ Below w0.heap.size w0 w' ∧ KeepBut w w' g none := by
 have hu37 := Try.underlying37
 have HI0 := z0 hI
 have HK := z0 (KeepBut.refl w g none)
 have HL := z0 hB.size
 clear hI
 have HW0 := z0 hB.size
 have HB := z0 hB
 clear hB
 have H : ((spec_l12Rd_pick.f k s0_0 s0_1 2).bind fun bt476 => ((spec_l12Rd_pick.f k s0_0 bt476.2 3).bind fun bt478 => (some (wrap64 (2 + bt476.1), bt478.1, bt478.2)))) = some (r1, r2, r3) := h
 clear h
 replace H := Option.bind_eq_some_iff.mp H
 obtain ⟨⟨t476, t477⟩, A20, H⟩ := H
 try dsimp only at H
 have A2 := z0 A20
 clear A20
 replace H := Option.bind_eq_some_iff.mp H
 obtain ⟨⟨t478, t479⟩, A30, H⟩ := H
 try dsimp only at H
 have A3 := z0 A30
 clear A30
 simp only [Option.some.injEq, Prod.mk.injEq] at H
 obtain ⟨rfl, rfl, rfl⟩ := H
 go_enter Try.func77, Try.ntmps77
 go_wp2_with (first | ((with_reducible refine gate_dst (N := 2) rfl ?_); refine box_event ?hg (N := 2) ?hd (cs := #[.int .i64 0, .int .i64 0]) (t := 37) ?hr ?_; (case hd => rfl); (case hg => rfl); (case hr => first | (go_simp; done) | (go_simp; rfl)); intro gb475 hg w4 hbox hb; have n_ := az (IsS116.below (mI116_1 HI0.out) hb) <| az (KeepBut.trans (mKp HK.out) (KeepBut.of_below hb g none) (.inl rfl)) <| az (below_step (mB116HI0 HB.out) hb) <| az (hbox) <| az ((gW hg HK.out)) <| az ((Nat.le_trans HW0.out (gW hg HK.out) : w0.heap.size ≤ gb475)) <| az ((by rw [hg]; exact Nat.ne_of_lt (IsS116.lt (show IsS116 w0 _ g s0_0 s0_1 from mI116_1 HI0.out)) : g ≠ gb475)) <| z0 ((by rw [hg]; exact Nat.ne_of_gt (IsS116.lt (show IsS116 w0 _ g s0_0 s0_1 from mI116_1 HI0.out)) : gb475 ≠ g)); clear HI0 HK HB; obtain ⟨HI0, HK, HB, BK475, GW475, GE475, NB0_475, NB475_0⟩ := n_; clear hb hbox hg) | ((with_reducible refine gate_callee (f := 73) rfl ?_); refine goesL_ (some 4) rfl rfl Try.func73 (by kernel_rfl) rfl #[.pointer (some ⟨g, 0, none⟩), .int .i64 2] rfl argx ?_; (with_reducible refine (spec_l12Rd_pick.calls k g s0_0 s0_1 2 t476 t477 w0 _ ?side1 ?side2 A2.out).mono ?_); (case side1 => exact mI116_1 HI0.out); (case side2 => exact mB116HI0 HB.out); rintro e w5 ⟨rfl, hi, hb, hk⟩; refine ⟨_, rfl, ?_⟩; have n_ := az (kB hk BK475.out NB475_0.out) <| az (KeepBut.trans (mKp HK.out) hk (.inl rfl)) <| az (hb) <| z0 (hi); clear BK475 HK HB HI0; obtain ⟨BK475, HK, HB, HI0⟩ := n_; clear hb hk hi) | ((with_reducible refine gate_callee (f := 73) rfl ?_); refine goesL_ (some 7) rfl rfl Try.func73 (by kernel_rfl) rfl #[.pointer (some ⟨g, 0, none⟩), .int .i64 3] rfl argx ?_; (with_reducible refine (spec_l12Rd_pick.calls k g s0_0 t477 3 t478 t479 w0 _ ?side1 ?side2 A3.out).mono ?_); (case side1 => exact mI116_1 HI0.out); (case side2 => exact mB116HI0 HB.out); rintro e w6 ⟨rfl, hi, hb, hk⟩; refine ⟨_, rfl, ?_⟩; have n_ := az (kB hk BK475.out NB475_0.out) <| az (KeepBut.trans (mKp HK.out) hk (.inl rfl)) <| az (hb) <| z0 (hi); clear BK475 HK HB HI0; obtain ⟨BK475, HK, HB, HI0⟩ := n_; clear hb hk hi; have hnb7 := NB475_0.out; have hnc7 := NB0_475.out; obtain ⟨hcz8_0, hcz8_1, hfz8_0, hfz8_1⟩ := cel2 BK475.out))
 refine bodyPost_ret (results_cell_row rfl _ _ gb475 37 #[.int .i64 (wrap64 (2 + t476)), .int .i64 t478] (0, 0) _ rfl (pF BK475.out) Try.underlying37 rfl (by kernel_rfl)) rfl ?_
 exact ⟨rfx, mI116_1 HI0.out, mB116HI0 HB.out, mKp HK.out⟩

end Go.Proofs.Ytddnijmgipffeaa.B
