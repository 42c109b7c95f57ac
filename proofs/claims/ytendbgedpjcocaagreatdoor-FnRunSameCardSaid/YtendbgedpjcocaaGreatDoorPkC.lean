/- Printed functions of this seat, in one text. -/
import Derived.Test.YtendbgedpjcocaaGreatDoorB0
import Derived.Test.YtendbgedpjcocaaGreatDoorSq
import Derived.Test.YtendbgedpjcocaaGreatDoorPkB
import Derived.Test.YtendbgedpjcocaaGreatDoorPkA
namespace Go.Proofs.YtendbgedpjcocaaGreatDoor.B
open Go.RowKit Go.Proofs.YtendbgedpjcocaaGreatDoorW.PrintWords Go.Proofs.YtendbgedpjcocaaGreatDoorW.PrintLast Go.Proofs.YtendbgedpjcocaaGreatDoorW.PrintMore
attribute [local go_sem] max2_int min2_int max_two min_two max_three min_three max_four min_four   -- for this text's walks alone
set_option linter.unusedVariables false
set_option linter.unusedSimpArgs false

/-! ### spec_l3Bent: function 33 -/
mutual
def spec_l3Bent.l0 : Nat → Int → List Int → Int → Int → Int → Int → Int → List (S27) → Option (Int × Int × Int × Int × (List (S27)) × Int)
 | 0, _, _, _, _, _, _, _, _ => none
 | k + 1, x4, x1000, x1001, x223000, x223001, x223002, x223003, x223004 => if x4 < 6 then (spec_l3Bent.l0 k (wrap64 (x4 + 1)) x1000 x1001 10 0 0 0 (([(⟨x223000, x223001, (⟨x223002, x223003⟩ : S24), x223004⟩ : S27)] : List (S27)))) else (some (x223000, x223001, x223002, x223003, x223004, x1001))
def spec_l3Bent.l1 : Nat → Int → List Int → Int → Int → Int → Int → Int → List (S27) → Option (Int × Int × Int × Int × (List (S27)) × Int)
 | 0, _, _, _, _, _, _, _, _ => none
 | k + 1, x5, x1000, x1001, x223000, x223001, x223002, x223003, x223004 => if x5 < 4 then ((spec_l3Copy.f k x223000 x223001 x223002 x223003 x223004).bind fun bt241 => (spec_l3Bent.l1 k (wrap64 (x5 + 1)) x1000 x1001 3 0 0 0 (([(⟨x223000, x223001, (⟨x223002, x223003⟩ : S24), x223004⟩ : S27), (⟨bt241.1, bt241.2.1, (⟨bt241.2.2.1, bt241.2.2.2.1⟩ : S24), bt241.2.2.2.2⟩ : S27)] : List (S27))))) else (some (x223000, x223001, x223002, x223003, x223004, x1001))
end
def spec_l3Bent.f (k : Nat) (s0_0 : List Int) (s0_1 : Int) : Option (Int × Int × Int × Int × (List (S27)) × Int) := (spec_l3Some.f k s0_0 s0_1).bind fun bt214 => ((spec_l12Rd_pick.f k s0_0 bt214.2.2.2.2.2 60).bind fun bt223 => (if bt223.1 = 0 then ((spec_l12Rd_num.f k s0_0 bt223.2 (([0, 11, 3, 10] : List Int))).bind fun bt228 => (some (bt228.1, bt214.2.1, bt214.2.2.1, bt214.2.2.2.1, bt214.2.2.2.2.1, bt228.2))) else (if bt223.1 = 1 then ((spec_l12Rd_num.f k s0_0 bt223.2 (([1, 1000001] : List Int))).bind fun bt233 => (some (bt214.1, bt233.1, bt214.2.2.1, bt214.2.2.2.1, bt214.2.2.2.2.1, bt233.2))) else (if bt223.1 = 2 then ((spec_l2AddrBent.f k s0_0 bt223.2).bind fun bt235 => (some (bt214.1, bt214.2.1, bt235.1, bt235.2.1, bt214.2.2.2.2.1, bt235.2.2))) else (if bt223.1 = 3 then (spec_l3Bent.l0 k 0 s0_0 bt223.2 bt214.1 bt214.2.1 bt214.2.2.1 bt214.2.2.2.1 bt214.2.2.2.2.1) else (if bt223.1 = 4 then (spec_l3Bent.l1 k 0 s0_0 bt223.2 bt214.1 bt214.2.1 bt214.2.2.1 bt214.2.2.2.1 bt214.2.2.2.2.1) else (some (bt214.1, bt214.2.1, bt214.2.2.1, bt214.2.2.2.1, bt214.2.2.2.2.1, bt223.2))))))))
set_option maxHeartbeats 8000000 in
set_option maxRecDepth 100000 in
theorem spec_l3Bent.calls (k : Nat) (g : Nat) (s0_0 : List Int) (s0_1 : Int) (r1 : Int) (r2 : Int) (r3 : Int) (r4 : Int) (r5 : List (S27)) (r6 : Int) (w0 w : World) (hI : IsS93 w0 w g s0_0 s0_1) (hB : Below w0.heap.size w0 w) (h : spec_l3Bent.f k s0_0 s0_1 = some (r1, r2, r3, r4, r5, r6)) :
  Calls Tryz.prog 33 #[.pointer (some ⟨g, 0, none⟩)] w fun e w' => ∃ v4_ : Value, e = .returned (.agg #[.int .i64 r1, .int .i64 r2, .int .i64 r3, .int .i64 r4, v4_]) ∧ Kd.N k27 27 w' w.heap.size (fun k_ => (w.heap.size ≤ k_)) v4_ r5 ∧ IsS93 w0 w' g s0_0 r6 ∧ Below w0.heap.size w0 w' ∧ KeepBut w w' g none := by
 have hu27 := Tryz.underlying27
 have hu24 := Tryz.underlying24
 have HI0 := z0 hI
 have HK := z0 (KeepBut.refl w g none)
 have HL := z0 hB.size
 clear hI
 have HW0 := z0 hB.size
 have HB := z0 hB
 clear hB
 have H : ((spec_l3Some.f k s0_0 s0_1).bind fun bt214 => ((spec_l12Rd_pick.f k s0_0 bt214.2.2.2.2.2 60).bind fun bt223 => (if bt223.1 = 0 then ((spec_l12Rd_num.f k s0_0 bt223.2 (([0, 11, 3, 10] : List Int))).bind fun bt228 => (some (bt228.1, bt214.2.1, bt214.2.2.1, bt214.2.2.2.1, bt214.2.2.2.2.1, bt228.2))) else (if bt223.1 = 1 then ((spec_l12Rd_num.f k s0_0 bt223.2 (([1, 1000001] : List Int))).bind fun bt233 => (some (bt214.1, bt233.1, bt214.2.2.1, bt214.2.2.2.1, bt214.2.2.2.2.1, bt233.2))) else (if bt223.1 = 2 then ((spec_l2AddrBent.f k s0_0 bt223.2).bind fun bt235 => (some (bt214.1, bt214.2.1, bt235.1, bt235.2.1, bt214.2.2.2.2.1, bt235.2.2))) else (if bt223.1 = 3 then (spec_l3Bent.l0 k 0 s0_0 bt223.2 bt214.1 bt214.2.1 bt214.2.2.1 bt214.2.2.2.1 bt214.2.2.2.2.1) else (if bt223.1 = 4 then (spec_l3Bent.l1 k 0 s0_0 bt223.2 bt214.1 bt214.2.1 bt214.2.2.1 bt214.2.2.2.1 bt214.2.2.2.2.1) else (some (bt214.1, bt214.2.1, bt214.2.2.1, bt214.2.2.2.1, bt214.2.2.2.2.1, bt223.2))))))))) = some (r1, r2, r3, r4, r5, r6) := h
 clear h
 replace H := Option.bind_eq_some_iff.mp H
 obtain ⟨⟨t214, t215, t216, t217, t218, t221⟩, A20, H⟩ := H
 try dsimp only at H
 have A2 := z0 A20
 clear A20
 replace H := Option.bind_eq_some_iff.mp H
 obtain ⟨⟨t223, t224⟩, A30, H⟩ := H
 try dsimp only at H
 have A3 := z0 A30
 clear A30
 have HF4 := z0 H
 clear H
 go_enter Tryz.func33, Tryz.ntmps33
 go_upto_if 10 with (first | ((with_reducible refine gate_dst (N := 2) rfl ?_); refine box_event ?hg (N := 2) ?hd (cs := #[.int .i64 0, .int .i64 0, .int .i64 0, .int .i64 0, .slice none 0 0]) (t := 27) ?hr ?_; (case hd => rfl); (case hg => rfl); (case hr => first | (go_simp; done) | (go_simp; rfl)); intro gb213 hg w5 hbox hb; have n_ := az (IsS93.below (mI93_1 HI0.out) hb) <| az (KeepBut.trans (mKp HK.out) (KeepBut.of_below hb g none) (.inl rfl)) <| az (below_step (mB93HI0 HB.out) hb) <| az (hbox) <| az ((gW hg HK.out)) <| az ((Nat.le_trans HW0.out (gW hg HK.out) : w0.heap.size ≤ gb213)) <| az ((by rw [hg]; exact Nat.ne_of_lt (IsS93.lt (show IsS93 w0 _ g s0_0 s0_1 from mI93_1 HI0.out)) : g ≠ gb213)) <| z0 ((by rw [hg]; exact Nat.ne_of_gt (IsS93.lt (show IsS93 w0 _ g s0_0 s0_1 from mI93_1 HI0.out)) : gb213 ≠ g)); clear HI0 HK HB; obtain ⟨HI0, HK, HB, BK213, GW213, GE213, NB0_213, NB213_0⟩ := n_; clear hb hbox hg) | ((with_reducible refine gate_callee (f := 60) rfl ?_); refine goesL_ (some 7) rfl rfl Tryz.func60 (by kernel_rfl) rfl #[.pointer (some ⟨g, 0, none⟩)] rfl argx ?_; (with_reducible refine (spec_l3Some.calls k g s0_0 s0_1 t214 t215 t216 t217 t218 t221 w0 _ ?side1 ?side2 A2.out).mono ?_); (case side1 => exact mI93_1 HI0.out); (case side2 => exact mB93HI0 HB.out); rintro e w6 ⟨v219, rfl, ho0, hi, hb, hk⟩; refine ⟨_, rfl, ?_⟩; have n_ := az (kB hk BK213.out NB213_0.out) <| az (Kd.N_lower (Kd.N_mono (ok' := fun k_ => (w.heap.size ≤ k_) ∧ k_ ≠ gb213 ∧ k_ ≠ g) (Kd.R_N (Kd.R_bound ho0)) (fun k_ hk_ => ⟨(Nat.le_trans (kS HK.out) hk_.2.1), (fB BK213.out hk_.2.1), (IsS93.fresh (mI93_1 HI0.out) k_ hk_.2.1)⟩)) (kS HK.out)) <| az (KeepBut.trans (mKp HK.out) hk (.inl rfl)) <| az (hb) <| z0 (hi); clear BK213 HK HB HI0; obtain ⟨BK213, HO220, HK, HB, HI0⟩ := n_; clear hb hk hi ho0) | ((with_reducible refine gate_dst (N := 3) rfl ?_); refine box_event ?hg (N := 3) ?hd (cs := #[.int .i64 0, .int .i64 0, .int .i64 0, .int .i64 0, .slice none 0 0]) (t := 27) ?hr ?_; (case hd => rfl); (case hg => rfl); (case hr => first | (go_simp; done) | (go_simp; rfl)); intro gb222 hg w7 hbox hb; have n_ := az (Kd.N_below (Kd.N_elderB (mN HO220.out) gb222 (Nat.le_of_eq hg.symm)) hb) <| az (IsS93.below (mI93_1 HI0.out) hb) <| az (bB BK213.out hb) <| az (KeepBut.trans (mKp HK.out) (KeepBut.of_below hb g none) (.inl rfl)) <| az (below_step (mB93HI0 HB.out) hb) <| az (hbox) <| az ((gW hg HK.out)) <| az ((Nat.le_trans HW0.out (gW hg HK.out) : w0.heap.size ≤ gb222)) <| az ((nL hg BK213.out)) <| az ((nG hg BK213.out)) <| az ((by rw [hg]; exact Nat.ne_of_lt (IsS93.lt (show IsS93 w0 _ g s0_0 t221 from mI93_1 HI0.out)) : g ≠ gb222)) <| z0 ((by rw [hg]; exact Nat.ne_of_gt (IsS93.lt (show IsS93 w0 _ g s0_0 t221 from mI93_1 HI0.out)) : gb222 ≠ g)); clear HO220 HI0 BK213 HK HB; obtain ⟨HO220, HI0, BK213, HK, HB, BK222, GW222, GE222, NB213_222, NB222_213, NB0_222, NB222_0⟩ := n_; clear hb hbox hg; have hnb8 := NB222_213.out; have hnc8 := NB213_222.out; have hnb9 := NB222_0.out; have hnc9 := NB0_222.out; obtain ⟨hcz10_0, hcz10_1, hcz10_2, hcz10_3, hcz10_4, hfz10_0, hfz10_1, hfz10_2, hfz10_3, hfz10_4⟩ := cel5 BK222.out; obtain ⟨Ao11, co11, eo11⟩ := Kd.N_slice HO220.out; subst eo11) | ((with_reducible refine gate_callee (f := 61) rfl ?_); refine goesL_ (some 9) rfl rfl Tryz.func61 (by kernel_rfl) rfl #[.pointer (some ⟨g, 0, none⟩), .int .i64 60] rfl argx ?_; (with_reducible refine (spec_l12Rd_pick.calls k g s0_0 t221 60 t223 t224 w0 _ ?side1 ?side2 A3.out).mono ?_); (case side1 => exact mI93_1 HI0.out); (case side2 => exact mB93HI0 HB.out); rintro e w12 ⟨rfl, hi, hb, hk⟩; refine ⟨_, rfl, ?_⟩; have n_ := az (KeepBut.blk hk (g' := gb213) (o := .cells #[.int .i64 0, .int .i64 0, .int .i64 0, .int .i64 0, .slice none 0 0] 27 (0, 0)) (mF BK213.out) NB213_0.out (by simp)) <| az (Kd.N_mono (Kd.N_keep (Kd.N_mono (ok := fun k_ => ((((w.heap.size ≤ k_)) ∧ (k_ ≠ gb213 ∧ k_ ≠ g)) ∧ k_ ≠ gb222)) (by (with_reducible repeat (first | apply Kd.N_alloc | apply Kd.N_drewN | apply Kd.N_drew)); exact (Kd.N_mono (Kd.N_far (p := ⟨gb222, 4, none⟩) (Kd.N_far (p := ⟨gb222, 3, none⟩) (Kd.N_far (p := ⟨gb222, 2, none⟩) (Kd.N_far (p := ⟨gb222, 1, none⟩) (Kd.N_far (p := ⟨gb222, 0, none⟩) (Kd.N_mono HO220.out (fun k_ hk => (⟨hk, hk.2⟩ : _ ∧ k_ ≠ gb222))) (fun _ hk => hk.2) (.int .i64 t214)) (fun _ hk => hk.2) (.int .i64 t215)) (fun _ hk => hk.2) (.int .i64 t216)) (fun _ hk => hk.2) (.int .i64 t217)) (fun _ hk => hk.2) (.slice Ao11 t218.length co11)) (fun _ h_ => h_.1))) (fun k_ hk_ => (⟨hk_, hk_.1.2.2⟩ : _ ∧ k_ ≠ g))) hk (fun _ h => h.2)) (fun _ h => h.1)) <| az (KeepBut.blk hk (g' := gb222) (o := .cells #[.int .i64 t214, .int .i64 t215, .int .i64 t216, .int .i64 t217, .slice Ao11 t218.length co11] 27 (0, 0)) (by (with_reducible repeat (first | refine blk_drewN ?_ _ | refine blk_drew ?_ | refine blk_alloc ?_ _)); refine blk_put (cs := #[.int .i64 t214, .int .i64 t215, .int .i64 t216, .int .i64 t217, .slice none 0 0]) ?_ 4 _ rfl; (with_reducible repeat (first | refine blk_drewN ?_ _ | refine blk_drew ?_ | refine blk_alloc ?_ _)); refine blk_put (cs := #[.int .i64 t214, .int .i64 t215, .int .i64 t216, .int .i64 0, .slice none 0 0]) ?_ 3 _ rfl; (with_reducible repeat (first | refine blk_drewN ?_ _ | refine blk_drew ?_ | refine blk_alloc ?_ _)); refine blk_put (cs := #[.int .i64 t214, .int .i64 t215, .int .i64 0, .int .i64 0, .slice none 0 0]) ?_ 2 _ rfl; (with_reducible repeat (first | refine blk_drewN ?_ _ | refine blk_drew ?_ | refine blk_alloc ?_ _)); refine blk_put (cs := #[.int .i64 t214, .int .i64 0, .int .i64 0, .int .i64 0, .slice none 0 0]) ?_ 1 _ rfl; (with_reducible repeat (first | refine blk_drewN ?_ _ | refine blk_drew ?_ | refine blk_alloc ?_ _)); refine blk_put (cs := #[.int .i64 0, .int .i64 0, .int .i64 0, .int .i64 0, .slice none 0 0]) ?_ 0 _ rfl; (with_reducible repeat (first | refine blk_drewN ?_ _ | refine blk_drew ?_ | refine blk_alloc ?_ _)); exact BK222.out) NB222_0.out (by simp)) <| az (KeepBut.trans (mKp HK.out) hk (.inl rfl)) <| az (hb) <| z0 (hi); clear BK213 HO220 BK222 HK HB HI0; obtain ⟨BK213, HO220, BK222, HK, HB, HI0⟩ := n_; clear hb hk hi))
 (try simp only [Act.put, List.setIfInBounds_toArray, List.set_cons_zero, List.set_cons_succ])
 have H := HF4.out
 clear HF4
 (try clear hcz10_0); (try clear hcz10_1); (try clear hcz10_2); (try clear hcz10_3); (try clear hcz10_4); (try clear hfz10_0); (try clear hfz10_1); (try clear hfz10_2); (try clear hfz10_3); (try clear hfz10_4)
 by_cases c13 : t223 = 0
 ·rw [if_pos c13] at H
  have c13b0 : (t223 == 0) = true := beq_iff_eq.mpr c13
  have c13b1 : (t223 != 0) = false := bne_eq_false_iff_eq.mpr c13
  clear c13
  (first | rw [c13b0] | (simp only [i64_w, i32_w]; rw [c13b0]) | skip)
  obtain ⟨y225, hy225⟩ : ∃ y_ : List Int, y_ = (([0, 11, 3, 10] : List Int)) := ⟨_, rfl⟩
  replace H : ((spec_l12Rd_num.f k s0_0 t224 y225).bind fun bt228 => (some (bt228.1, t215, t216, t217, t218, bt228.2))) = some (r1, r2, r3, r4, r5, r6) := by first | (rw [hy225]; with_reducible exact H) | (have H2_ := (Option.bind_some _ _).symm.trans H; rw [hy225]; with_reducible exact H2_) | (have H2_ := (Option.bind_some _ _).symm.trans H; with_reducible exact H2_) | with_reducible exact H | (rw [hy225]; exact H) | exact H
  have Ny225 := z0 hy225
  clear hy225
  replace H := Option.bind_eq_some_iff.mp H
  obtain ⟨⟨t228, t229⟩, A140, H⟩ := H
  try dsimp only at H
  have A14 := z0 A140
  clear A140
  simp only [Option.some.injEq, Prod.mk.injEq] at H
  obtain ⟨rfl, rfl, rfl, rfl, rfl, rfl⟩ := H
  go_wp2_with (first | ((with_reducible refine gate_dst (N := 13) rfl ?_); refine Kd.R_lit (Kd.int .i64) _ 3 ?hg (N := 13) ?hd (xs := ([0, 11, 3, 10] : List Int)) (inner := [.int .i64 0, .int .i64 11, .int .i64 3, .int .i64 10]) (ok := fun _ => True) (okp := fun _ => True) ?hr ?hp (fun _ hk => hk) trivial (Below.refl _ _) (Nat.le_refl _) (by simp) ?_; (case hd => rfl); (case hg => rfl); (case hr => first | (go_simp; done) | (go_simp; rfl)); (case hp => exact (Reps.one (show Kd.M (Kd.int .i64) _ _ _ 0 [.int .i64 0] from rfl) (Reps.one (show Kd.M (Kd.int .i64) _ _ _ 11 [.int .i64 11] from rfl) (Reps.one (show Kd.M (Kd.int .i64) _ _ _ 3 [.int .i64 3] from rfl) (Reps.one (show Kd.M (Kd.int .i64) _ _ _ 10 [.int .i64 10] from rfl) (Reps.none _ _)))))); intro v226 w15 ho16 hb hg_ hnew_; clear hg_ hnew_; (first | rw [← Ny225.out] at ho16 | (simp only [Int.reduceToNat] at ho16; rw [← Ny225.out] at ho16)); have n_ := az (Kd.N_elder' (mN HO220.out) (by first | exact Kd.R_base ho16 | exact Kd.R_base ho16) hb) <| az (Kd.R_lower (Kd.R_newM (M := fun k_ => (w.heap.size ≤ k_)) ho16 (kS HK.out) (fun k_ h_ => h_)) (kS HK.out)) <| az (IsS93.below (mI93_1 HI0.out) hb) <| az (bB BK213.out hb) <| az (bB BK222.out hb) <| az (KeepBut.trans (mKp HK.out) (KeepBut.of_below hb g none) (.inl rfl)) <| z0 (below_step (mB93HI0 HB.out) hb); clear HO220 HI0 BK213 BK222 HK HB; obtain ⟨HO220, HO227, HI0, BK213, BK222, HK, HB⟩ := n_; clear hb ho16; obtain ⟨Ao17, co17, eo17⟩ := Kd.R_slice HO227.out; subst eo17) | ((with_reducible refine gate_callee (f := 51) rfl ?_); refine goesL_ (some 14) rfl rfl Tryz.func51 (by kernel_rfl) rfl #[.pointer (some ⟨g, 0, none⟩), .slice Ao17 y225.length co17] rfl argx ?_; (with_reducible refine (spec_l12Rd_num.calls k g s0_0 t224 _ _ y225 t228 t229 w0 _ ?side1 ?side2 ?side3 ?side4 ?side5 A14.out).mono ?_); (case side1 => exact mI93_1 HI0.out); (case side2 => exact mB93HI0 HB.out); (case side3 => exact mC (Kd.R_reads' HO227.out).2.2); (case side4 => exact (Kd.R_reads' HO227.out).2.1); (case side5 => exact far_slice (IsS93.own_ne HI0.out HO227.out (by decide))); rintro e w18 ⟨rfl, hi, hb, hk⟩; refine ⟨_, rfl, ?_⟩; have n_ := az (kB hk BK213.out NB213_0.out) <| az (Kd.N_mono (Kd.N_keep (Kd.N_mono (ok := fun k_ => (((((w.heap.size ≤ k_)) ∧ (k_ ≠ gb213 ∧ k_ ≠ g)) ∧ k_ ≠ gb222) ∧ nB k_ (.slice Ao17 y225.length co17))) (mN HO220.out) (fun k_ hk_ => (⟨hk_, hk_.1.1.2.2⟩ : _ ∧ k_ ≠ g))) hk (fun _ h => h.2)) (fun _ h => h.1)) <| az (kB hk BK222.out NB222_0.out) <| az (Kd.R_mono (Kd.R_keep (IsS93.apart (show IsS93 w0 _ g s0_0 t224 from mI93_1 HI0.out) (mR HO227.out) (by decide)) hk (fun _ h => h.2)) (fun _ h => h.1)) <| az (KeepBut.trans (mKp HK.out) hk (.inl rfl)) <| az (hb) <| z0 (hi); clear BK213 HO220 BK222 HO227 HK HB HI0; obtain ⟨BK213, HO220, BK222, HO227, HK, HB, HI0⟩ := n_; clear hb hk hi; have hnb19 := NB222_213.out; have hnc19 := NB213_222.out; have hnb20 := NB222_0.out; have hnc20 := NB0_222.out; obtain ⟨hcz21_0, hcz21_1, hcz21_2, hcz21_3, hcz21_4, hfz21_0, hfz21_1, hfz21_2, hfz21_3, hfz21_4⟩ := cel5 BK222.out; have hnb22 := NB213_0.out; have hnc22 := NB0_213.out; obtain ⟨hcz23_0, hcz23_1, hcz23_2, hcz23_3, hcz23_4, hfz23_0, hfz23_1, hfz23_2, hfz23_3, hfz23_4⟩ := cel5 BK213.out))
  refine bodyPost_ret (results_cell_row rfl _ _ gb213 27 #[.int .i64 t228, .int .i64 t215, .int .i64 t216, .int .i64 t217, .slice Ao11 t218.length co11] (0, 0) _ rfl (by (with_reducible repeat (first | refine blk_drewN ?_ _ | refine blk_drew ?_ | refine blk_alloc ?_ _)); refine blk_put (cs := #[.int .i64 t228, .int .i64 t215, .int .i64 t216, .int .i64 t217, .slice none 0 0]) ?_ 4 _ rfl; (with_reducible repeat (first | refine blk_drewN ?_ _ | refine blk_drew ?_ | refine blk_alloc ?_ _)); refine blk_put (cs := #[.int .i64 t228, .int .i64 t215, .int .i64 t216, .int .i64 0, .slice none 0 0]) ?_ 3 _ rfl; (with_reducible repeat (first | refine blk_drewN ?_ _ | refine blk_drew ?_ | refine blk_alloc ?_ _)); refine blk_put (cs := #[.int .i64 t228, .int .i64 t215, .int .i64 0, .int .i64 0, .slice none 0 0]) ?_ 2 _ rfl; (with_reducible repeat (first | refine blk_drewN ?_ _ | refine blk_drew ?_ | refine blk_alloc ?_ _)); refine blk_put (cs := #[.int .i64 t228, .int .i64 0, .int .i64 0, .int .i64 0, .slice none 0 0]) ?_ 1 _ rfl; (with_reducible repeat (first | refine blk_drewN ?_ _ | refine blk_drew ?_ | refine blk_alloc ?_ _)); refine blk_put (cs := #[.int .i64 0, .int .i64 0, .int .i64 0, .int .i64 0, .slice none 0 0]) ?_ 0 _ rfl; (with_reducible repeat (first | refine blk_drewN ?_ _ | refine blk_drew ?_ | refine blk_alloc ?_ _)); refine blk_far ?_ NB213_222.out _; (with_reducible repeat (first | refine blk_drewN ?_ _ | refine blk_drew ?_ | refine blk_alloc ?_ _)); exact BK213.out) Tryz.underlying27 rfl (by kernel_rfl)) rfl ?_
  exact ⟨_, rfx, by (with_reducible repeat (first | apply Kd.N_alloc | apply Kd.N_drewN | apply Kd.N_drew)); exact Kd.N_mono (Kd.N_far (p := ⟨gb213, 4, none⟩) (Kd.N_far (p := ⟨gb213, 3, none⟩) (Kd.N_far (p := ⟨gb213, 2, none⟩) (Kd.N_far (p := ⟨gb213, 1, none⟩) (Kd.N_far (p := ⟨gb213, 0, none⟩) (Kd.N_far (p := ⟨gb222, 0, none⟩) (Kd.N_mono (Kd.N_mono HO220.out (fun k_ hk => (⟨hk, hk.1.2⟩ : _ ∧ k_ ≠ gb222))) (fun k_ hk => (⟨hk, hk.1.1.1.2.1⟩ : _ ∧ k_ ≠ gb213))) (fun _ hk => hk.1.2) (.int .i64 t228)) (fun _ hk => hk.2) (.int .i64 t228)) (fun _ hk => hk.2) (.int .i64 t215)) (fun _ hk => hk.2) (.int .i64 t216)) (fun _ hk => hk.2) (.int .i64 t217)) (fun _ hk => hk.2) (.slice Ao11 t218.length co11)) (fun _ hk => hk.1.1.1.1.1), mI93_1 HI0.out, mB93HI0 HB.out, mKp HK.out⟩
 ·rw [if_neg c13] at H
  have c13b0 : (t223 == 0) = false := beq_eq_false_iff_ne.mpr c13
  have c13b1 : (t223 != 0) = true := bne_iff_ne.mpr c13
  (first | rw [c13b0] | (simp only [i64_w, i32_w]; rw [c13b0]) | skip)
  by_cases c24 : t223 = 1
  ·rw [if_pos c24] at H
   have c24b0 : (t223 == 1) = true := beq_iff_eq.mpr c24
   have c24b1 : (t223 != 1) = false := bne_eq_false_iff_eq.mpr c24
   clear c24
   obtain ⟨y230, hy230⟩ : ∃ y_ : List Int, y_ = (([1, 1000001] : List Int)) := ⟨_, rfl⟩
   replace H : ((spec_l12Rd_num.f k s0_0 t224 y230).bind fun bt233 => (some (t214, bt233.1, t216, t217, t218, bt233.2))) = some (r1, r2, r3, r4, r5, r6) := by first | (rw [hy230]; with_reducible exact H) | (have H2_ := (Option.bind_some _ _).symm.trans H; rw [hy230]; with_reducible exact H2_) | (have H2_ := (Option.bind_some _ _).symm.trans H; with_reducible exact H2_) | with_reducible exact H | (rw [hy230]; exact H) | exact H
   have Ny230 := z0 hy230
   clear hy230
   replace H := Option.bind_eq_some_iff.mp H
   obtain ⟨⟨t233, t234⟩, A250, H⟩ := H
   try dsimp only at H
   have A25 := z0 A250
   clear A250
   simp only [Option.some.injEq, Prod.mk.injEq] at H
   obtain ⟨rfl, rfl, rfl, rfl, rfl, rfl⟩ := H
   go_wp2_with (first | ((with_reducible refine gate_dst (N := 19) rfl ?_); refine Kd.R_lit (Kd.int .i64) _ 3 ?hg (N := 19) ?hd (xs := ([1, 1000001] : List Int)) (inner := [.int .i64 1, .int .i64 1000001]) (ok := fun _ => True) (okp := fun _ => True) ?hr ?hp (fun _ hk => hk) trivial (Below.refl _ _) (Nat.le_refl _) (by simp) ?_; (case hd => rfl); (case hg => rfl); (case hr => first | (go_simp; done) | (go_simp; rfl)); (case hp => exact (Reps.one (show Kd.M (Kd.int .i64) _ _ _ 1 [.int .i64 1] from rfl) (Reps.one (show Kd.M (Kd.int .i64) _ _ _ 1000001 [.int .i64 1000001] from rfl) (Reps.none _ _)))); intro v231 w26 ho27 hb hg_ hnew_; clear hg_ hnew_; (first | rw [← Ny230.out] at ho27 | (simp only [Int.reduceToNat] at ho27; rw [← Ny230.out] at ho27)); have n_ := az (Kd.N_elder' (mN HO220.out) (by first | exact Kd.R_base ho27 | exact Kd.R_base ho27) hb) <| az (Kd.R_lower (Kd.R_newM (M := fun k_ => (w.heap.size ≤ k_)) ho27 (kS HK.out) (fun k_ h_ => h_)) (kS HK.out)) <| az (IsS93.below (mI93_1 HI0.out) hb) <| az (bB BK213.out hb) <| az (bB BK222.out hb) <| az (KeepBut.trans (mKp HK.out) (KeepBut.of_below hb g none) (.inl rfl)) <| z0 (below_step (mB93HI0 HB.out) hb); clear HO220 HI0 BK213 BK222 HK HB; obtain ⟨HO220, HO232, HI0, BK213, BK222, HK, HB⟩ := n_; clear hb ho27; obtain ⟨Ao28, co28, eo28⟩ := Kd.R_slice HO232.out; subst eo28) | ((with_reducible refine gate_callee (f := 51) rfl ?_); refine goesL_ (some 20) rfl rfl Tryz.func51 (by kernel_rfl) rfl #[.pointer (some ⟨g, 0, none⟩), .slice Ao28 y230.length co28] rfl argx ?_; (with_reducible refine (spec_l12Rd_num.calls k g s0_0 t224 _ _ y230 t233 t234 w0 _ ?side1 ?side2 ?side3 ?side4 ?side5 A25.out).mono ?_); (case side1 => exact mI93_1 HI0.out); (case side2 => exact mB93HI0 HB.out); (case side3 => exact mC (Kd.R_reads' HO232.out).2.2); (case side4 => exact (Kd.R_reads' HO232.out).2.1); (case side5 => exact far_slice (IsS93.own_ne HI0.out HO232.out (by decide))); rintro e w29 ⟨rfl, hi, hb, hk⟩; refine ⟨_, rfl, ?_⟩; have n_ := az (kB hk BK213.out NB213_0.out) <| az (Kd.N_mono (Kd.N_keep (Kd.N_mono (ok := fun k_ => (((((w.heap.size ≤ k_)) ∧ (k_ ≠ gb213 ∧ k_ ≠ g)) ∧ k_ ≠ gb222) ∧ nB k_ (.slice Ao28 y230.length co28))) (mN HO220.out) (fun k_ hk_ => (⟨hk_, hk_.1.1.2.2⟩ : _ ∧ k_ ≠ g))) hk (fun _ h => h.2)) (fun _ h => h.1)) <| az (kB hk BK222.out NB222_0.out) <| az (Kd.R_mono (Kd.R_keep (IsS93.apart (show IsS93 w0 _ g s0_0 t224 from mI93_1 HI0.out) (mR HO232.out) (by decide)) hk (fun _ h => h.2)) (fun _ h => h.1)) <| az (KeepBut.trans (mKp HK.out) hk (.inl rfl)) <| az (hb) <| z0 (hi); clear BK213 HO220 BK222 HO232 HK HB HI0; obtain ⟨BK213, HO220, BK222, HO232, HK, HB, HI0⟩ := n_; clear hb hk hi; have hnb30 := NB222_213.out; have hnc30 := NB213_222.out; have hnb31 := NB222_0.out; have hnc31 := NB0_222.out; obtain ⟨hcz32_0, hcz32_1, hcz32_2, hcz32_3, hcz32_4, hfz32_0, hfz32_1, hfz32_2, hfz32_3, hfz32_4⟩ := cel5 BK222.out; have hnb33 := NB213_0.out; have hnc33 := NB0_213.out; obtain ⟨hcz34_0, hcz34_1, hcz34_2, hcz34_3, hcz34_4, hfz34_0, hfz34_1, hfz34_2, hfz34_3, hfz34_4⟩ := cel5 BK213.out))
   refine bodyPost_ret (results_cell_row rfl _ _ gb213 27 #[.int .i64 t214, .int .i64 t233, .int .i64 t216, .int .i64 t217, .slice Ao11 t218.length co11] (0, 0) _ rfl (by (with_reducible repeat (first | refine blk_drewN ?_ _ | refine blk_drew ?_ | refine blk_alloc ?_ _)); refine blk_put (cs := #[.int .i64 t214, .int .i64 t233, .int .i64 t216, .int .i64 t217, .slice none 0 0]) ?_ 4 _ rfl; (with_reducible repeat (first | refine blk_drewN ?_ _ | refine blk_drew ?_ | refine blk_alloc ?_ _)); refine blk_put (cs := #[.int .i64 t214, .int .i64 t233, .int .i64 t216, .int .i64 0, .slice none 0 0]) ?_ 3 _ rfl; (with_reducible repeat (first | refine blk_drewN ?_ _ | refine blk_drew ?_ | refine blk_alloc ?_ _)); refine blk_put (cs := #[.int .i64 t214, .int .i64 t233, .int .i64 0, .int .i64 0, .slice none 0 0]) ?_ 2 _ rfl; (with_reducible repeat (first | refine blk_drewN ?_ _ | refine blk_drew ?_ | refine blk_alloc ?_ _)); refine blk_put (cs := #[.int .i64 t214, .int .i64 0, .int .i64 0, .int .i64 0, .slice none 0 0]) ?_ 1 _ rfl; (with_reducible repeat (first | refine blk_drewN ?_ _ | refine blk_drew ?_ | refine blk_alloc ?_ _)); refine blk_put (cs := #[.int .i64 0, .int .i64 0, .int .i64 0, .int .i64 0, .slice none 0 0]) ?_ 0 _ rfl; (with_reducible repeat (first | refine blk_drewN ?_ _ | refine blk_drew ?_ | refine blk_alloc ?_ _)); refine blk_far ?_ NB213_222.out _; (with_reducible repeat (first | refine blk_drewN ?_ _ | refine blk_drew ?_ | refine blk_alloc ?_ _)); exact BK213.out) Tryz.underlying27 rfl (by kernel_rfl)) rfl ?_
   exact ⟨_, rfx, by (with_reducible repeat (first | apply Kd.N_alloc | apply Kd.N_drewN | apply Kd.N_drew)); exact Kd.N_mono (Kd.N_far (p := ⟨gb213, 4, none⟩) (Kd.N_far (p := ⟨gb213, 3, none⟩) (Kd.N_far (p := ⟨gb213, 2, none⟩) (Kd.N_far (p := ⟨gb213, 1, none⟩) (Kd.N_far (p := ⟨gb213, 0, none⟩) (Kd.N_far (p := ⟨gb222, 1, none⟩) (Kd.N_mono (Kd.N_mono HO220.out (fun k_ hk => (⟨hk, hk.1.2⟩ : _ ∧ k_ ≠ gb222))) (fun k_ hk => (⟨hk, hk.1.1.1.2.1⟩ : _ ∧ k_ ≠ gb213))) (fun _ hk => hk.1.2) (.int .i64 t233)) (fun _ hk => hk.2) (.int .i64 t214)) (fun _ hk => hk.2) (.int .i64 t233)) (fun _ hk => hk.2) (.int .i64 t216)) (fun _ hk => hk.2) (.int .i64 t217)) (fun _ hk => hk.2) (.slice Ao11 t218.length co11)) (fun _ hk => hk.1.1.1.1.1), mI93_1 HI0.out, mB93HI0 HB.out, mKp HK.out⟩
  ·rw [if_neg c24] at H
   have c24b0 : (t223 == 1) = false := beq_eq_false_iff_ne.mpr c24
   have c24b1 : (t223 != 1) = true := bne_iff_ne.mpr c24
   by_cases c35 : t223 = 2
   ·rw [if_pos c35] at H
    have c35b0 : (t223 == 2) = true := beq_iff_eq.mpr c35
    have c35b1 : (t223 != 2) = false := bne_eq_false_iff_eq.mpr c35
    clear c35
    replace H := Option.bind_eq_some_iff.mp H
    obtain ⟨⟨t235, t236, t237⟩, A360, H⟩ := H
    try dsimp only at H
    have A36 := z0 A360
    clear A360
    simp only [Option.some.injEq, Prod.mk.injEq] at H
    obtain ⟨rfl, rfl, rfl, rfl, rfl, rfl⟩ := H
    go_wp2_with (first | ((with_reducible refine gate_callee (f := 42) rfl ?_); refine goesL_ (some 25) rfl rfl Tryz.func42 (by kernel_rfl) rfl #[.pointer (some ⟨g, 0, none⟩)] rfl argx ?_; (with_reducible refine (spec_l2AddrBent.calls k g s0_0 t224 t235 t236 t237 w0 _ ?side1 ?side2 A36.out).mono ?_); (case side1 => exact mI93_1 HI0.out); (case side2 => exact mB93HI0 HB.out); rintro e w37 ⟨rfl, hi, hb, hk⟩; refine ⟨_, rfl, ?_⟩; have n_ := az (kB hk BK213.out NB213_0.out) <| az (Kd.N_mono (Kd.N_keep (Kd.N_mono (ok := fun k_ => ((((w.heap.size ≤ k_)) ∧ (k_ ≠ gb213 ∧ k_ ≠ g)) ∧ k_ ≠ gb222)) (mN HO220.out) (fun k_ hk_ => (⟨hk_, hk_.1.2.2⟩ : _ ∧ k_ ≠ g))) hk (fun _ h => h.2)) (fun _ h => h.1)) <| az (kB hk BK222.out NB222_0.out) <| az (KeepBut.trans (mKp HK.out) hk (.inl rfl)) <| az (hb) <| z0 (hi); clear BK213 HO220 BK222 HK HB HI0; obtain ⟨BK213, HO220, BK222, HK, HB, HI0⟩ := n_; clear hb hk hi; have hnb38 := NB222_213.out; have hnc38 := NB213_222.out; have hnb39 := NB222_0.out; have hnc39 := NB0_222.out; obtain ⟨hcz40_0, hcz40_1, hcz40_2, hcz40_3, hcz40_4, hfz40_0, hfz40_1, hfz40_2, hfz40_3, hfz40_4⟩ := cel5 BK222.out; have hnb41 := NB213_0.out; have hnc41 := NB0_213.out; obtain ⟨hcz42_0, hcz42_1, hcz42_2, hcz42_3, hcz42_4, hfz42_0, hfz42_1, hfz42_2, hfz42_3, hfz42_4⟩ := cel5 BK213.out))
    refine bodyPost_ret (results_cell_row rfl _ _ gb213 27 #[.int .i64 t214, .int .i64 t215, .int .i64 t235, .int .i64 t236, .slice Ao11 t218.length co11] (0, 0) _ rfl (by (with_reducible repeat (first | refine blk_drewN ?_ _ | refine blk_drew ?_ | refine blk_alloc ?_ _)); refine blk_put (cs := #[.int .i64 t214, .int .i64 t215, .int .i64 t235, .int .i64 t236, .slice none 0 0]) ?_ 4 _ rfl; (with_reducible repeat (first | refine blk_drewN ?_ _ | refine blk_drew ?_ | refine blk_alloc ?_ _)); refine blk_put (cs := #[.int .i64 t214, .int .i64 t215, .int .i64 t235, .int .i64 0, .slice none 0 0]) ?_ 3 _ rfl; (with_reducible repeat (first | refine blk_drewN ?_ _ | refine blk_drew ?_ | refine blk_alloc ?_ _)); refine blk_put (cs := #[.int .i64 t214, .int .i64 t215, .int .i64 0, .int .i64 0, .slice none 0 0]) ?_ 2 _ rfl; (with_reducible repeat (first | refine blk_drewN ?_ _ | refine blk_drew ?_ | refine blk_alloc ?_ _)); refine blk_put (cs := #[.int .i64 t214, .int .i64 0, .int .i64 0, .int .i64 0, .slice none 0 0]) ?_ 1 _ rfl; (with_reducible repeat (first | refine blk_drewN ?_ _ | refine blk_drew ?_ | refine blk_alloc ?_ _)); refine blk_put (cs := #[.int .i64 0, .int .i64 0, .int .i64 0, .int .i64 0, .slice none 0 0]) ?_ 0 _ rfl; (with_reducible repeat (first | refine blk_drewN ?_ _ | refine blk_drew ?_ | refine blk_alloc ?_ _)); refine blk_far ?_ NB213_222.out _; (with_reducible repeat (first | refine blk_drewN ?_ _ | refine blk_drew ?_ | refine blk_alloc ?_ _)); refine blk_far ?_ NB213_222.out _; (with_reducible repeat (first | refine blk_drewN ?_ _ | refine blk_drew ?_ | refine blk_alloc ?_ _)); exact BK213.out) Tryz.underlying27 rfl (by kernel_rfl)) rfl ?_
    exact ⟨_, rfx, by (with_reducible repeat (first | apply Kd.N_alloc | apply Kd.N_drewN | apply Kd.N_drew)); exact Kd.N_mono (Kd.N_far (p := ⟨gb213, 4, none⟩) (Kd.N_far (p := ⟨gb213, 3, none⟩) (Kd.N_far (p := ⟨gb213, 2, none⟩) (Kd.N_far (p := ⟨gb213, 1, none⟩) (Kd.N_far (p := ⟨gb213, 0, none⟩) (Kd.N_far (p := ⟨gb222, 3, none⟩) (Kd.N_far (p := ⟨gb222, 2, none⟩) (Kd.N_mono (Kd.N_mono HO220.out (fun k_ hk => (⟨hk, hk.2⟩ : _ ∧ k_ ≠ gb222))) (fun k_ hk => (⟨hk, hk.1.1.2.1⟩ : _ ∧ k_ ≠ gb213))) (fun _ hk => hk.1.2) (.int .i64 t235)) (fun _ hk => hk.1.2) (.int .i64 t236)) (fun _ hk => hk.2) (.int .i64 t214)) (fun _ hk => hk.2) (.int .i64 t215)) (fun _ hk => hk.2) (.int .i64 t235)) (fun _ hk => hk.2) (.int .i64 t236)) (fun _ hk => hk.2) (.slice Ao11 t218.length co11)) (fun _ hk => hk.1.1.1.1), mI93_1 HI0.out, mB93HI0 HB.out, mKp HK.out⟩
   ·rw [if_neg c35] at H
    have c35b0 : (t223 == 2) = false := beq_eq_false_iff_ne.mpr c35
    have c35b1 : (t223 != 2) = true := bne_iff_ne.mpr c35
    by_cases c43 : t223 = 3
    ·rw [if_pos c43] at H
     have c43b0 : (t223 == 3) = true := beq_iff_eq.mpr c43
     have c43b1 : (t223 != 3) = false := bne_eq_false_iff_eq.mpr c43
     clear c43
     have H' := z0 H
     clear H
     go_wp2
     go_loopg [4] k (fun kq v4 w' => ∃ (x4_1 : Int) (x223000_1 : Int) (x223001_1 : Int) (x223002_1 : Int) (x223003_1 : Int) (x223004_1 : List (S27)) (u223004 : Value), v4 = .int .i64 x4_1 ∧ Aside0 (spec_l3Bent.l0 kq x4_1 s0_0 t224 x223000_1 x223001_1 x223002_1 x223003_1 x223004_1 = some (r1, r2, r3, r4, r5, r6)) ∧ Aside0 (kq ≤ k) ∧ Aside0 (Kd.N k27 27 w' w.heap.size (fun k_ => (w.heap.size ≤ k_) ∧ k_ ≠ gb213 ∧ k_ ≠ gb222 ∧ k_ ≠ g) u223004 x223004_1) ∧ Aside0 (w'.heap[gb213]? = some (.cells #[.int .i64 0, .int .i64 0, .int .i64 0, .int .i64 0, (.slice none 0 0)] 27 (0, 0))) ∧ Aside0 (w'.heap[gb222]? = some (.cells #[.int .i64 x223000_1, .int .i64 x223001_1, .int .i64 x223002_1, .int .i64 x223003_1, u223004] 27 (0, 0))) ∧ Aside0 (IsS93 w0 w' g s0_0 t224) ∧ Aside0 (KeepBut w w' g none) ∧ Aside0 (Below w0.heap.size w0 w'))
     case atStart => exact ⟨(0), (t214), (t215), (t216), (t217), (t218), (.slice Ao11 t218.length co11), rfy, H', ⟨Nat.le_refl _⟩, ⟨by (with_reducible repeat (first | apply Kd.N_alloc | apply Kd.N_drewN | apply Kd.N_drew)); exact Kd.N_mono HO220.out (fun _ hk => ⟨hk.1.1, ⟨hk.1.2.1, ⟨hk.2, hk.1.2.2⟩⟩⟩)⟩, ⟨mK BK213.out⟩, ⟨mK BK222.out⟩, ⟨mI93_1 HI0.out⟩, ⟨mKp HK.out⟩, ⟨mB93HI0 HB.out⟩⟩
     case round =>
      clear H'
      (try clear c13); (try clear c13b0); (try clear c13b1); (try clear c24); (try clear c24b0); (try clear c24b1); (try clear c35); (try clear c35b0); (try clear c35b1); (try clear c43); (try clear c43b0); (try clear c43b1); (try clear hcz10_0); (try clear hcz10_1); (try clear hcz10_2); (try clear hcz10_3); (try clear hcz10_4); (try clear hcz21_0); (try clear hcz21_1); (try clear hcz21_2); (try clear hcz21_3); (try clear hcz21_4); (try clear hcz23_0); (try clear hcz23_1); (try clear hcz23_2); (try clear hcz23_3); (try clear hcz23_4); (try clear hcz32_0); (try clear hcz32_1); (try clear hcz32_2); (try clear hcz32_3); (try clear hcz32_4); (try clear hcz34_0); (try clear hcz34_1); (try clear hcz34_2); (try clear hcz34_3); (try clear hcz34_4); (try clear hcz40_0); (try clear hcz40_1); (try clear hcz40_2); (try clear hcz40_3); (try clear hcz40_4); (try clear hcz42_0); (try clear hcz42_1); (try clear hcz42_2); (try clear hcz42_3); (try clear hcz42_4); (try clear hfz10_0); (try clear hfz10_1); (try clear hfz10_2); (try clear hfz10_3); (try clear hfz10_4); (try clear hfz21_0); (try clear hfz21_1); (try clear hfz21_2); (try clear hfz21_3); (try clear hfz21_4); (try clear hfz23_0); (try clear hfz23_1); (try clear hfz23_2); (try clear hfz23_3); (try clear hfz23_4); (try clear hfz32_0); (try clear hfz32_1); (try clear hfz32_2); (try clear hfz32_3); (try clear hfz32_4); (try clear hfz34_0); (try clear hfz34_1); (try clear hfz34_2); (try clear hfz34_3); (try clear hfz34_4); (try clear hfz40_0); (try clear hfz40_1); (try clear hfz40_2); (try clear hfz40_3); (try clear hfz40_4); (try clear hfz42_0); (try clear hfz42_1); (try clear hfz42_2); (try clear hfz42_3); (try clear hfz42_4)
      obtain ⟨x4_1, x223000_1, x223001_1, x223002_1, x223003_1, x223004_1, u223004, rfl, HA, HK1, HO_223004, BK213, BK222, HI0, HK, HB⟩ := hrel
      cases gk with
      | zero => exact absurd HA.out (by simp [spec_l3Bent.l0])
      | succ k1 =>
       have H := HA.out
       clear HA
       simp only [spec_l3Bent.l0] at H
       by_cases c44 : x4_1 < 6
       ·rw [if_pos c44] at H
        have c44b0 : decide (x4_1 < 6) = true := decide_eq_true c44
        clear c44
        obtain ⟨y238, hy238⟩ : ∃ y_ : List (S27), y_ = (([(⟨x223000_1, x223001_1, (⟨x223002_1, x223003_1⟩ : S24), x223004_1⟩ : S27)] : List (S27))) := ⟨_, rfl⟩
        replace H : (spec_l3Bent.l0 k1 (wrap64 (x4_1 + 1)) s0_0 t224 10 0 0 0 y238) = some (r1, r2, r3, r4, r5, r6) := by first | (rw [hy238]; with_reducible exact H) | (have H2_ := (Option.bind_some _ _).symm.trans H; rw [hy238]; with_reducible exact H2_) | (have H2_ := (Option.bind_some _ _).symm.trans H; with_reducible exact H2_) | with_reducible exact H | (rw [hy238]; exact H) | exact H
        have Ny238 := z0 hy238
        clear hy238
        have H' := z0 H
        clear H
        have hnb45 := NB222_213.out
        have hnc45 := NB213_222.out
        have hnb46 := NB222_0.out
        have hnc46 := NB0_222.out
        obtain ⟨hcz47_0, hcz47_1, hcz47_2, hcz47_3, hcz47_4, hfz47_0, hfz47_1, hfz47_2, hfz47_3, hfz47_4⟩ := cel5 BK222.out
        obtain ⟨Ao48, co48, eo48⟩ := Kd.N_slice HO_223004.out
        subst eo48
        go_wp2_with (first | ((with_reducible refine gate_dst (N := 34) rfl ?_); refine Kd.N_lit k27 _ 27 ?hg (N' := 34) ?hd (xs := ([(⟨x223000_1, x223001_1, (⟨x223002_1, x223003_1⟩ : S24), x223004_1⟩ : S27)] : List (S27))) (inner := [.int .i64 x223000_1, .int .i64 x223001_1, .int .i64 x223002_1, .int .i64 x223003_1, .slice Ao48 x223004_1.length co48]) (ok := (fun k_ => (w.heap.size ≤ k_) ∧ k_ ≠ gb213 ∧ k_ ≠ gb222 ∧ k_ ≠ g)) (okp := (fun k_ => (w.heap.size ≤ k_) ∧ k_ ≠ gb213 ∧ k_ ≠ gb222 ∧ k_ ≠ g)) ?hr ?hp (fun _ hk => hk) ((show ∀ k_, wr.heap.size ≤ k_ → (fun k_ => (w.heap.size ≤ k_) ∧ k_ ≠ gb213 ∧ k_ ≠ gb222 ∧ k_ ≠ g) k_ from fun k_ hk => ⟨(Nat.le_trans (kS HK.out) hk), fB BK213.out hk, fB BK222.out hk, IsS93.fresh (mI93_1 HI0.out) k_ hk⟩) _ (Nat.le_refl _)) (Below.refl _ _) (Nat.le_refl _) (by simp) ?_; (case hd => rfl); (case hg => rfl); (case hr => first | (go_simp; done) | (go_simp; rfl)); (case hp => exact (Reps.c5 (show Kd.FK k27 _ _ (⟨x223000_1, x223001_1, (⟨x223002_1, x223003_1⟩ : S24), x223004_1⟩ : S27) [.int .i64 x223000_1, .int .i64 x223001_1, .int .i64 x223002_1, .int .i64 x223003_1, .slice Ao48 x223004_1.length co48] from (k27_mkF _ _ (⟨x223000_1, x223001_1, (⟨x223002_1, x223003_1⟩ : S24), x223004_1⟩ : S27) (Kd.N_reads' (Kd.N_mono (ok' := (fun k_ => (w.heap.size ≤ k_) ∧ k_ ≠ gb213 ∧ k_ ≠ gb222 ∧ k_ ≠ g)) (HO_223004.out) (fun k_ hk => ⟨hk.1, ⟨hk.2.1, ⟨hk.2.2.1, hk.2.2.2⟩⟩⟩))).2.1 (Kd.N_F (Kd.N_mono (ok' := (fun k_ => (w.heap.size ≤ k_) ∧ k_ ≠ gb213 ∧ k_ ≠ gb222 ∧ k_ ≠ g)) (HO_223004.out) (fun k_ hk => ⟨hk.1, ⟨hk.2.1, ⟨hk.2.2.1, hk.2.2.2⟩⟩⟩))))) (Reps.none _ _))); intro v239 w49 ho50 hb hg_ hnew_; clear hg_ hnew_; (first | rw [← Ny238.out] at ho50 | (simp only [Int.reduceToNat] at ho50; rw [← Ny238.out] at ho50)); have n_ := az (Kd.N_lower ho50 (kS HK.out)) <| az (bB BK213.out hb) <| az (bB BK222.out hb) <| az (IsS93.below (mI93_1 HI0.out) hb) <| az (KeepBut.trans (mKp HK.out) (KeepBut.of_below hb g none) (.inl rfl)) <| z0 (below_step (mB93HI0 HB.out) hb); clear BK213 BK222 HI0 HK HB HO_223004; obtain ⟨HO240, BK213, BK222, HI0, HK, HB⟩ := n_; clear hb ho50; obtain ⟨Ao51, co51, eo51⟩ := Kd.N_slice HO240.out; subst eo51; obtain ⟨hcz52_0, hcz52_1, hcz52_2, hcz52_3, hcz52_4, hfz52_0, hfz52_1, hfz52_2, hfz52_3, hfz52_4⟩ := cel5 BK222.out))
        go_roundg k1
        case measure => have := HK1.out; omega
        case rel => exact ⟨(wrap64 (x4_1 + 1)), (10), (0), (0), (0), (y238), (.slice Ao51 y238.length co51), rfy, H', ⟨by have := HK1.out; omega⟩, ⟨by (with_reducible repeat (first | apply Kd.N_alloc | apply Kd.N_drewN | apply Kd.N_drew)); exact Kd.N_mono (Kd.N_far (p := ⟨gb222, 4, none⟩) (Kd.N_far (p := ⟨gb222, 3, none⟩) (Kd.N_far (p := ⟨gb222, 2, none⟩) (Kd.N_far (p := ⟨gb222, 1, none⟩) (Kd.N_far (p := ⟨gb222, 0, none⟩) (Kd.N_mono HO240.out (fun k_ hk => (⟨hk, hk.2.2.1⟩ : _ ∧ k_ ≠ gb222))) (fun _ hk => hk.2) (.int .i64 10)) (fun _ hk => hk.2) (.int .i64 0)) (fun _ hk => hk.2) (.int .i64 0)) (fun _ hk => hk.2) (.int .i64 0)) (fun _ hk => hk.2) (.slice Ao51 y238.length co51)) (fun _ hk => ⟨hk.1.1, ⟨hk.1.2.1, ⟨hk.1.2.2.1, hk.1.2.2.2⟩⟩⟩)⟩, ⟨mF BK213.out⟩, ⟨by (with_reducible repeat (first | refine blk_drewN ?_ _ | refine blk_drew ?_ | refine blk_alloc ?_ _)); refine blk_put (cs := #[.int .i64 10, .int .i64 0, .int .i64 0, .int .i64 0, .slice Ao48 x223004_1.length co48]) ?_ 4 _ rfl; (with_reducible repeat (first | refine blk_drewN ?_ _ | refine blk_drew ?_ | refine blk_alloc ?_ _)); refine blk_put (cs := #[.int .i64 10, .int .i64 0, .int .i64 0, .int .i64 x223003_1, .slice Ao48 x223004_1.length co48]) ?_ 3 _ rfl; (with_reducible repeat (first | refine blk_drewN ?_ _ | refine blk_drew ?_ | refine blk_alloc ?_ _)); refine blk_put (cs := #[.int .i64 10, .int .i64 0, .int .i64 x223002_1, .int .i64 x223003_1, .slice Ao48 x223004_1.length co48]) ?_ 2 _ rfl; (with_reducible repeat (first | refine blk_drewN ?_ _ | refine blk_drew ?_ | refine blk_alloc ?_ _)); refine blk_put (cs := #[.int .i64 10, .int .i64 x223001_1, .int .i64 x223002_1, .int .i64 x223003_1, .slice Ao48 x223004_1.length co48]) ?_ 1 _ rfl; (with_reducible repeat (first | refine blk_drewN ?_ _ | refine blk_drew ?_ | refine blk_alloc ?_ _)); refine blk_put (cs := #[.int .i64 x223000_1, .int .i64 x223001_1, .int .i64 x223002_1, .int .i64 x223003_1, .slice Ao48 x223004_1.length co48]) ?_ 0 _ rfl; (with_reducible repeat (first | refine blk_drewN ?_ _ | refine blk_drew ?_ | refine blk_alloc ?_ _)); exact BK222.out⟩, ⟨mI93_1 HI0.out⟩, ⟨mKp HK.out⟩, ⟨mB93HI0 HB.out⟩⟩
       ·rw [if_neg c44] at H
        have c44b0 : decide (x4_1 < 6) = false := decide_eq_false c44
        clear c44
        simp only [Option.some.injEq, Prod.mk.injEq] at H
        obtain ⟨rfl, rfl, rfl, rfl, rfl, rfl⟩ := H
        have hnb53 := NB222_213.out
        have hnc53 := NB213_222.out
        have hnb54 := NB222_0.out
        have hnc54 := NB0_222.out
        obtain ⟨hcz55_0, hcz55_1, hcz55_2, hcz55_3, hcz55_4, hfz55_0, hfz55_1, hfz55_2, hfz55_3, hfz55_4⟩ := cel5 BK222.out
        have hnb56 := NB213_0.out
        have hnc56 := NB0_213.out
        obtain ⟨hcz57_0, hcz57_1, hcz57_2, hcz57_3, hcz57_4, hfz57_0, hfz57_1, hfz57_2, hfz57_3, hfz57_4⟩ := cel5 BK213.out
        obtain ⟨Ao58, co58, eo58⟩ := Kd.N_slice HO_223004.out
        subst eo58
        go_wp2
        refine bodyPost_ret (results_cell_row rfl _ _ gb213 27 #[.int .i64 x223000_1, .int .i64 x223001_1, .int .i64 x223002_1, .int .i64 x223003_1, .slice Ao58 x223004_1.length co58] (0, 0) _ rfl (pF BK213.out) Tryz.underlying27 rfl (by kernel_rfl)) rfl ?_
        exact ⟨_, rfx, by (with_reducible repeat (first | apply Kd.N_alloc | apply Kd.N_drewN | apply Kd.N_drew)); exact Kd.N_mono (Kd.N_far (p := ⟨gb213, 4, none⟩) (Kd.N_far (p := ⟨gb213, 3, none⟩) (Kd.N_far (p := ⟨gb213, 2, none⟩) (Kd.N_far (p := ⟨gb213, 1, none⟩) (Kd.N_far (p := ⟨gb213, 0, none⟩) (Kd.N_mono HO_223004.out (fun k_ hk => (⟨hk, hk.2.1⟩ : _ ∧ k_ ≠ gb213))) (fun _ hk => hk.2) (.int .i64 x223000_1)) (fun _ hk => hk.2) (.int .i64 x223001_1)) (fun _ hk => hk.2) (.int .i64 x223002_1)) (fun _ hk => hk.2) (.int .i64 x223003_1)) (fun _ hk => hk.2) (.slice Ao58 x223004_1.length co58)) (fun _ hk => hk.1.1), mI93_1 HI0.out, mB93HI0 HB.out, mKp HK.out⟩
    ·rw [if_neg c43] at H
     have c43b0 : (t223 == 3) = false := beq_eq_false_iff_ne.mpr c43
     have c43b1 : (t223 != 3) = true := bne_iff_ne.mpr c43
     by_cases c59 : t223 = 4
     ·rw [if_pos c59] at H
      have c59b0 : (t223 == 4) = true := beq_iff_eq.mpr c59
      have c59b1 : (t223 != 4) = false := bne_eq_false_iff_eq.mpr c59
      clear c59
      have H' := z0 H
      clear H
      go_wp2
      go_loopg [5] k (fun kq v5 w' => ∃ (x5_1 : Int) (x223000_1 : Int) (x223001_1 : Int) (x223002_1 : Int) (x223003_1 : Int) (x223004_1 : List (S27)) (u223004 : Value), v5 = .int .i64 x5_1 ∧ Aside0 (spec_l3Bent.l1 kq x5_1 s0_0 t224 x223000_1 x223001_1 x223002_1 x223003_1 x223004_1 = some (r1, r2, r3, r4, r5, r6)) ∧ Aside0 (kq ≤ k) ∧ Aside0 (Kd.N k27 27 w' w.heap.size (fun k_ => (w.heap.size ≤ k_) ∧ k_ ≠ gb213 ∧ k_ ≠ gb222 ∧ k_ ≠ g) u223004 x223004_1) ∧ Aside0 (w'.heap[gb213]? = some (.cells #[.int .i64 0, .int .i64 0, .int .i64 0, .int .i64 0, (.slice none 0 0)] 27 (0, 0))) ∧ Aside0 (w'.heap[gb222]? = some (.cells #[.int .i64 x223000_1, .int .i64 x223001_1, .int .i64 x223002_1, .int .i64 x223003_1, u223004] 27 (0, 0))) ∧ Aside0 (IsS93 w0 w' g s0_0 t224) ∧ Aside0 (KeepBut w w' g none) ∧ Aside0 (Below w0.heap.size w0 w'))
      case atStart => exact ⟨(0), (t214), (t215), (t216), (t217), (t218), (.slice Ao11 t218.length co11), rfy, H', ⟨Nat.le_refl _⟩, ⟨by (with_reducible repeat (first | apply Kd.N_alloc | apply Kd.N_drewN | apply Kd.N_drew)); exact Kd.N_mono HO220.out (fun _ hk => ⟨hk.1.1, ⟨hk.1.2.1, ⟨hk.2, hk.1.2.2⟩⟩⟩)⟩, ⟨mK BK213.out⟩, ⟨mK BK222.out⟩, ⟨mI93_1 HI0.out⟩, ⟨mKp HK.out⟩, ⟨mB93HI0 HB.out⟩⟩
      case round =>
       clear H'
       (try clear c13); (try clear c13b0); (try clear c13b1); (try clear c24); (try clear c24b0); (try clear c24b1); (try clear c35); (try clear c35b0); (try clear c35b1); (try clear c43); (try clear c43b0); (try clear c43b1); (try clear c59); (try clear c59b0); (try clear c59b1); (try clear hcz10_0); (try clear hcz10_1); (try clear hcz10_2); (try clear hcz10_3); (try clear hcz10_4); (try clear hcz21_0); (try clear hcz21_1); (try clear hcz21_2); (try clear hcz21_3); (try clear hcz21_4); (try clear hcz23_0); (try clear hcz23_1); (try clear hcz23_2); (try clear hcz23_3); (try clear hcz23_4); (try clear hcz32_0); (try clear hcz32_1); (try clear hcz32_2); (try clear hcz32_3); (try clear hcz32_4); (try clear hcz34_0); (try clear hcz34_1); (try clear hcz34_2); (try clear hcz34_3); (try clear hcz34_4); (try clear hcz40_0); (try clear hcz40_1); (try clear hcz40_2); (try clear hcz40_3); (try clear hcz40_4); (try clear hcz42_0); (try clear hcz42_1); (try clear hcz42_2); (try clear hcz42_3); (try clear hcz42_4); (try clear hfz10_0); (try clear hfz10_1); (try clear hfz10_2); (try clear hfz10_3); (try clear hfz10_4); (try clear hfz21_0); (try clear hfz21_1); (try clear hfz21_2); (try clear hfz21_3); (try clear hfz21_4); (try clear hfz23_0); (try clear hfz23_1); (try clear hfz23_2); (try clear hfz23_3); (try clear hfz23_4); (try clear hfz32_0); (try clear hfz32_1); (try clear hfz32_2); (try clear hfz32_3); (try clear hfz32_4); (try clear hfz34_0); (try clear hfz34_1); (try clear hfz34_2); (try clear hfz34_3); (try clear hfz34_4); (try clear hfz40_0); (try clear hfz40_1); (try clear hfz40_2); (try clear hfz40_3); (try clear hfz40_4); (try clear hfz42_0); (try clear hfz42_1); (try clear hfz42_2); (try clear hfz42_3); (try clear hfz42_4)
       obtain ⟨x5_1, x223000_1, x223001_1, x223002_1, x223003_1, x223004_1, u223004, rfl, HA, HK1, HO_223004, BK213, BK222, HI0, HK, HB⟩ := hrel
       cases gk with
       | zero => exact absurd HA.out (by simp [spec_l3Bent.l1])
       | succ k1 =>
        have H := HA.out
        clear HA
        simp only [spec_l3Bent.l1] at H
        by_cases c60 : x5_1 < 4
        ·rw [if_pos c60] at H
         have c60b0 : decide (x5_1 < 4) = true := decide_eq_true c60
         clear c60
         replace H := Option.bind_eq_some_iff.mp H
         obtain ⟨⟨t241, t242, t243, t244, t245⟩, A610, H⟩ := H
         try dsimp only at H
         have A61 := z0 A610
         clear A610
         obtain ⟨y248, hy248⟩ : ∃ y_ : List (S27), y_ = (([(⟨x223000_1, x223001_1, (⟨x223002_1, x223003_1⟩ : S24), x223004_1⟩ : S27), (⟨t241, t242, (⟨t243, t244⟩ : S24), t245⟩ : S27)] : List (S27))) := ⟨_, rfl⟩
         replace H : (spec_l3Bent.l1 k1 (wrap64 (x5_1 + 1)) s0_0 t224 3 0 0 0 y248) = some (r1, r2, r3, r4, r5, r6) := by first | (rw [hy248]; with_reducible exact H) | (have H2_ := (Option.bind_some _ _).symm.trans H; rw [hy248]; with_reducible exact H2_) | (have H2_ := (Option.bind_some _ _).symm.trans H; with_reducible exact H2_) | with_reducible exact H | (rw [hy248]; exact H) | exact H
         have Ny248 := z0 hy248
         clear hy248
         have H' := z0 H
         clear H
         try go_wp2
         have n_ := az (Kd.N_drew HO_223004.out) <| az (blk_drew BK213.out) <| az (blk_drew BK222.out) <| az (IsS93.drew HI0.out) <| az (keep_drew HK.out) <| z0 (below_drew1 HB.out)
         clear HO_223004 BK213 BK222 HI0 HK HB
         obtain ⟨HO_223004, BK213, BK222, HI0, HK, HB⟩ := n_
         obtain ⟨Ao63, co63, eo63⟩ := Kd.N_slice HO_223004.out
         (first | subst eo63 | (injection eo63 with f1_ f2_ f3_; have f4_ := f1_.symm; have f5_ := f3_.symm; clear f1_ f2_ f3_; subst f4_; subst f5_))
         refine start_ (n := 6) (S := fun w' => w'.cell? ⟨gb222, 0, none⟩ = some (.int .i64 x223000_1) ∧ w'.cell? ⟨gb222, 1, none⟩ = some (.int .i64 x223001_1) ∧ w'.cell? ⟨gb222, 2, none⟩ = some (.int .i64 x223002_1) ∧ w'.cell? ⟨gb222, 3, none⟩ = some (.int .i64 x223003_1) ∧ w'.cell? ⟨gb222, 4, none⟩ = some (.slice Ao63 x223004_1.length co63)) (ds := [5]) #[false, false, false, false, false, false] (by kernel_rfl) rfl rfl ⟨(blk_cell BK222.out 0).trans rfl, (blk_cell BK222.out 1).trans rfl, (blk_cell BK222.out 2).trans rfl, (blk_cell BK222.out 3).trans rfl, (blk_cell BK222.out 4).trans rfl⟩ (fun hHeld => ?_)
         generalize wr.drew = w62 at HO_223004 BK213 BK222 HI0 HK HB hHeld ⊢
         refine take_ (i := 0) (N := some 42) (v := ?_) (a' := ?_) #[true, false, false, false, false, false] rfl rfl (by kernel_rfl) (fun _ _ _ h => h) (Or.inl ⟨by rfl, ?_⟩) hHeld ?_ ?_
         rotate_left
         ·rintro w' ⟨s0, s1, s2, s3, s4⟩
          go_simp
          with_reducible rfl
         rotate_left
         ·simp only [Act.put, List.setIfInBounds_toArray, List.set_cons_zero, List.set_cons_succ, i64_w, i32_w]
          rfl
         refine take_ (i := 1) (N := some 43) (v := ?_) (a' := ?_) #[true, true, false, false, false, false] rfl rfl (by kernel_rfl) (fun _ _ _ h => h) (Or.inl ⟨by rfl, ?_⟩) hHeld ?_ ?_
         rotate_left
         ·rintro w' ⟨s0, s1, s2, s3, s4⟩
          go_simp
          with_reducible rfl
         rotate_left
         ·simp only [Act.put, List.setIfInBounds_toArray, List.set_cons_zero, List.set_cons_succ, i64_w, i32_w]
          rfl
         refine one_ (i := 2) (N := some 44) #[true, true, true, false, false, false] rfl rfl (by kernel_rfl) (by decide) (fun K hK => ?_)
         refine goes_ Tryz.func62 (by kernel_rfl) rfl #[.agg #[.int .i64 x223000_1, .int .i64 x223001_1, .int .i64 x223002_1, .int .i64 x223003_1, .slice Ao63 x223004_1.length co63]] (by rfl) rfl rfl argx ?_
         with_reducible refine (spec_l3Copy.calls k1 x223000_1 x223001_1 x223002_1 x223003_1 _ _ x223004_1 t241 t242 t243 t244 t245 _ ?side1 ?side2 A61.out).mono ?_
         (case side1 => exact mC (Kd.N_reads' HO_223004.out).2.2)
         (case side2 => exact (Kd.N_reads' HO_223004.out).2.1)
         rintro e w64 ⟨v246, rfl, ho0, hb⟩
         refine ⟨_, rfl, ?_⟩
         have n_ := az (Kd.N_elder' (mN HO_223004.out) (by first | exact Kd.N_base ho0 | exact Kd.R_base ho0) hb) <| And.intro (z0 (Kd.N_lower (Kd.N_mono (ok' := fun k_ => (w.heap.size ≤ k_) ∧ nB k_ (.slice Ao63 x223004_1.length co63) ∧ k_ ≠ gb213 ∧ k_ ≠ gb222 ∧ k_ ≠ g) (Kd.R_N (Kd.R_bound ho0)) (fun k_ hk_ => ⟨(Nat.le_trans (kS HK.out) hk_.2.1), (Kd.fresh' (Kd.N_lt (mN HO_223004.out)) k_ hk_.2.1), (fB BK213.out hk_.2.1), (fB BK222.out hk_.2.1), (IsS93.fresh (mI93_1 HI0.out) k_ hk_.2.1)⟩)) (kS HK.out))) <| az (bB BK213.out hb) <| az (bB BK222.out hb) <| az (IsS93.below (mI93_1 HI0.out) hb) <| az (KeepBut.trans (mKp HK.out) (KeepBut.of_below hb g none) (.inl rfl)) <| z0 (below_step (mB93HI0 HB.out) hb)
         clear HO_223004 BK213 BK222 HI0 HK HB
         obtain ⟨HO_223004, HO247, BK213, BK222, HI0, HK, HB⟩ := n_
         (try clear hb)
         (try clear hb2)
         (try clear hk)
         (try clear hi)
         (try clear ho0)
         obtain ⟨Ao65, co65, eo65⟩ := Kd.N_slice HO247.out
         (first | subst eo65 | (injection eo65 with f1_ f2_ f3_; have f4_ := f1_.symm; have f5_ := f3_.symm; clear f1_ f2_ f3_; subst f4_; subst f5_))
         refine hK.out _ _ ⟨(blk_cell BK222.out 0).trans rfl, (blk_cell BK222.out 1).trans rfl, (blk_cell BK222.out 2).trans rfl, (blk_cell BK222.out 3).trans rfl, (blk_cell BK222.out 4).trans rfl⟩ (fun hHeld => ?_)
         clear hK K
         refine norm_ (a' := ?_) ?_ ?_
         rotate_left
         ·show Act.put _ (some 44) _ = _
          simp only [Act.put, List.setIfInBounds_toArray, List.set_cons_zero, List.set_cons_succ, i64_w, i32_w]
          rfl
         refine one_ (i := 3) (N := some 45) #[true, true, true, true, false, false] rfl rfl (by kernel_rfl) (by decide) (fun K hK => ?_)
         refine Kd.N_lit_step k27 _ 27 ?hg (N' := 45) ?hd (xs := ([(⟨x223000_1, x223001_1, (⟨x223002_1, x223003_1⟩ : S24), x223004_1⟩ : S27), (⟨t241, t242, (⟨t243, t244⟩ : S24), t245⟩ : S27)] : List (S27))) (inner := [.int .i64 x223000_1, .int .i64 x223001_1, .int .i64 x223002_1, .int .i64 x223003_1, .slice Ao63 x223004_1.length co63, .int .i64 t241, .int .i64 t242, .int .i64 t243, .int .i64 t244, .slice Ao65 t245.length co65]) (ok := (fun k_ => (w.heap.size ≤ k_) ∧ k_ ≠ gb213 ∧ k_ ≠ gb222 ∧ k_ ≠ g)) (okp := (fun k_ => (w.heap.size ≤ k_) ∧ k_ ≠ gb213 ∧ k_ ≠ gb222 ∧ k_ ≠ g)) ?hr ?hp (fun _ hk => hk) ((show ∀ k_, w64.heap.size ≤ k_ → (fun k_ => (w.heap.size ≤ k_) ∧ k_ ≠ gb213 ∧ k_ ≠ gb222 ∧ k_ ≠ g) k_ from fun k_ hk => ⟨(Nat.le_trans (kS HK.out) hk), fB BK213.out hk, fB BK222.out hk, IsS93.fresh (mI93_1 HI0.out) k_ hk⟩) _ (Nat.le_refl _)) (Below.refl _ _) (Nat.le_refl _) (by simp) ?_; (case hd => rfl); (case hg => rfl); (case hr => first | (go_simp; done) | (go_simp; rfl)); (case hp => exact (Reps.c5 (show Kd.FK k27 _ _ (⟨x223000_1, x223001_1, (⟨x223002_1, x223003_1⟩ : S24), x223004_1⟩ : S27) [.int .i64 x223000_1, .int .i64 x223001_1, .int .i64 x223002_1, .int .i64 x223003_1, .slice Ao63 x223004_1.length co63] from (k27_mkF _ _ (⟨x223000_1, x223001_1, (⟨x223002_1, x223003_1⟩ : S24), x223004_1⟩ : S27) (Kd.N_reads' (Kd.N_mono (ok' := (fun k_ => (w.heap.size ≤ k_) ∧ k_ ≠ gb213 ∧ k_ ≠ gb222 ∧ k_ ≠ g)) (HO_223004.out) (fun k_ hk => ⟨hk.1.1, ⟨hk.1.2.1, ⟨hk.1.2.2.1, hk.1.2.2.2⟩⟩⟩))).2.1 (Kd.N_F (Kd.N_mono (ok' := (fun k_ => (w.heap.size ≤ k_) ∧ k_ ≠ gb213 ∧ k_ ≠ gb222 ∧ k_ ≠ g)) (HO_223004.out) (fun k_ hk => ⟨hk.1.1, ⟨hk.1.2.1, ⟨hk.1.2.2.1, hk.1.2.2.2⟩⟩⟩))))) (Reps.c5 (show Kd.FK k27 _ _ (⟨t241, t242, (⟨t243, t244⟩ : S24), t245⟩ : S27) [.int .i64 t241, .int .i64 t242, .int .i64 t243, .int .i64 t244, .slice Ao65 t245.length co65] from (k27_mkF _ _ (⟨t241, t242, (⟨t243, t244⟩ : S24), t245⟩ : S27) (Kd.N_reads' (Kd.N_mono (ok' := (fun k_ => (w.heap.size ≤ k_) ∧ k_ ≠ gb213 ∧ k_ ≠ gb222 ∧ k_ ≠ g)) (HO247.out) (fun k_ hk => ⟨hk.1, ⟨hk.2.2.1, ⟨hk.2.2.2.1, hk.2.2.2.2⟩⟩⟩))).2.1 (Kd.N_F (Kd.N_mono (ok' := (fun k_ => (w.heap.size ≤ k_) ∧ k_ ≠ gb213 ∧ k_ ≠ gb222 ∧ k_ ≠ g)) (HO247.out) (fun k_ hk => ⟨hk.1, ⟨hk.2.2.1, ⟨hk.2.2.2.1, hk.2.2.2.2⟩⟩⟩))))) (Reps.none _ _))))
         intro v249 w66 ho67 hb hg_ hnew_
         clear hg_ hnew_
         (first | rw [← Ny248.out] at ho67 | (simp only [Int.reduceToNat] at ho67; rw [← Ny248.out] at ho67))
         have n_ := az (Kd.N_lower ho67 (kS HK.out)) <| az (bB BK213.out hb) <| az (bB BK222.out hb) <| az (IsS93.below (mI93_1 HI0.out) hb) <| az (KeepBut.trans (mKp HK.out) (KeepBut.of_below hb g none) (.inl rfl)) <| z0 (below_step (mB93HI0 HB.out) hb)
         clear BK213 BK222 HI0 HK HB HO247 HO_223004
         obtain ⟨HO250, BK213, BK222, HI0, HK, HB⟩ := n_
         clear hb ho67
         obtain ⟨Ao68, co68, eo68⟩ := Kd.N_slice HO250.out
         (first | subst eo68 | (injection eo68 with f1_ f2_ f3_; have f4_ := f1_.symm; have f5_ := f3_.symm; clear f1_ f2_ f3_; subst f4_; subst f5_))
         refine hK.out _ _ ⟨(blk_cell BK222.out 0).trans rfl, (blk_cell BK222.out 1).trans rfl, (blk_cell BK222.out 2).trans rfl, (blk_cell BK222.out 3).trans rfl, (blk_cell BK222.out 4).trans rfl⟩ (fun hHeld => ?_)
         clear hK K
         refine norm_ (a' := ?_) ?_ ?_
         rotate_left
         ·show Act.put _ (some 45) _ = _
          simp only [Act.put, List.setIfInBounds_toArray, List.set_cons_zero, List.set_cons_succ, i64_w, i32_w]
          rfl
         refine pure_ (i := 4) (N := some 46) (v := ?_) (a' := ?_) #[true, true, true, true, true, false] rfl rfl (by kernel_rfl) (fun _ _ _ h => h) (Or.inl ⟨by rfl, ?_⟩) ?_ ?_
         rotate_left
         ·intro w'
          go_simp
          with_reducible rfl
         rotate_left
         ·simp only [Act.put, List.setIfInBounds_toArray, List.set_cons_zero, List.set_cons_succ, i64_w, i32_w]
          rfl
         refine last_ (i := 5) (N := none) #[true, true, true, true, true, true] rfl rfl (by kernel_rfl) (by decide) (fun K hK => ?_)
         have hs69 : w66.cell? ⟨gb222, 0, none⟩ = some (.int .i64 x223000_1) := (blk_cell BK222.out 0).trans rfl
         have hfs69 := blk_frozen BK222.out 0
         have hns69_0 := NB213_222.out
         have hms69_0 := NB222_213.out
         have hs70 : w66.cell? ⟨gb222, 1, none⟩ = some (.int .i64 x223001_1) := (blk_cell BK222.out 1).trans rfl
         have hfs70 := blk_frozen BK222.out 1
         have hns70_0 := NB213_222.out
         have hms70_0 := NB222_213.out
         have hs71 : w66.cell? ⟨gb222, 2, none⟩ = some (.int .i64 x223002_1) := (blk_cell BK222.out 2).trans rfl
         have hfs71 := blk_frozen BK222.out 2
         have hns71_0 := NB213_222.out
         have hms71_0 := NB222_213.out
         have hs72 : w66.cell? ⟨gb222, 3, none⟩ = some (.int .i64 x223003_1) := (blk_cell BK222.out 3).trans rfl
         have hfs72 := blk_frozen BK222.out 3
         have hns72_0 := NB213_222.out
         have hms72_0 := NB222_213.out
         have hs73 : w66.cell? ⟨gb222, 4, none⟩ = some (.slice Ao63 x223004_1.length co63) := (blk_cell BK222.out 4).trans rfl
         have hfs73 := blk_frozen BK222.out 4
         have hns73_0 := NB213_222.out
         have hms73_0 := NB222_213.out
         refine skip_ (w1 := ?_) (by rfl) rfl ?_ ?_
         rotate_left
         ·go_simp
          rfl
         refine hK.out _ _ ?_
         clear hK K
         refine done_ (by kernel_rfl) ?_
         try go_wp2
         go_roundg k1
         case measure => have := HK1.out; omega
         case rel => exact ⟨(wrap64 (x5_1 + 1)), (3), (0), (0), (0), (y248), (.slice Ao68 y248.length co68), rfy, H', ⟨by have := HK1.out; omega⟩, ⟨by (with_reducible repeat (first | apply Kd.N_alloc | apply Kd.N_drewN | apply Kd.N_drew)); exact Kd.N_mono (Kd.N_far (p := ⟨gb222, 4, none⟩) (Kd.N_far (p := ⟨gb222, 3, none⟩) (Kd.N_far (p := ⟨gb222, 2, none⟩) (Kd.N_far (p := ⟨gb222, 1, none⟩) (Kd.N_far (p := ⟨gb222, 0, none⟩) (Kd.N_mono HO250.out (fun k_ hk => (⟨hk, hk.2.2.1⟩ : _ ∧ k_ ≠ gb222))) (fun _ hk => hk.2) (.int .i64 3)) (fun _ hk => hk.2) (.int .i64 0)) (fun _ hk => hk.2) (.int .i64 0)) (fun _ hk => hk.2) (.int .i64 0)) (fun _ hk => hk.2) (.slice Ao68 y248.length co68)) (fun _ hk => ⟨hk.1.1, ⟨hk.1.2.1, ⟨hk.1.2.2.1, hk.1.2.2.2⟩⟩⟩)⟩, ⟨mF BK213.out⟩, ⟨by (with_reducible repeat (first | refine blk_drewN ?_ _ | refine blk_drew ?_ | refine blk_alloc ?_ _)); refine blk_put (cs := #[.int .i64 3, .int .i64 0, .int .i64 0, .int .i64 0, .slice Ao63 x223004_1.length co63]) ?_ 4 _ rfl; (with_reducible repeat (first | refine blk_drewN ?_ _ | refine blk_drew ?_ | refine blk_alloc ?_ _)); refine blk_put (cs := #[.int .i64 3, .int .i64 0, .int .i64 0, .int .i64 x223003_1, .slice Ao63 x223004_1.length co63]) ?_ 3 _ rfl; (with_reducible repeat (first | refine blk_drewN ?_ _ | refine blk_drew ?_ | refine blk_alloc ?_ _)); refine blk_put (cs := #[.int .i64 3, .int .i64 0, .int .i64 x223002_1, .int .i64 x223003_1, .slice Ao63 x223004_1.length co63]) ?_ 2 _ rfl; (with_reducible repeat (first | refine blk_drewN ?_ _ | refine blk_drew ?_ | refine blk_alloc ?_ _)); refine blk_put (cs := #[.int .i64 3, .int .i64 x223001_1, .int .i64 x223002_1, .int .i64 x223003_1, .slice Ao63 x223004_1.length co63]) ?_ 1 _ rfl; (with_reducible repeat (first | refine blk_drewN ?_ _ | refine blk_drew ?_ | refine blk_alloc ?_ _)); refine blk_put (cs := #[.int .i64 x223000_1, .int .i64 x223001_1, .int .i64 x223002_1, .int .i64 x223003_1, .slice Ao63 x223004_1.length co63]) ?_ 0 _ rfl; (with_reducible repeat (first | refine blk_drewN ?_ _ | refine blk_drew ?_ | refine blk_alloc ?_ _)); exact BK222.out⟩, ⟨mI93_1 HI0.out⟩, ⟨mKp HK.out⟩, ⟨mB93HI0 HB.out⟩⟩
        ·rw [if_neg c60] at H
         have c60b0 : decide (x5_1 < 4) = false := decide_eq_false c60
         clear c60
         simp only [Option.some.injEq, Prod.mk.injEq] at H
         obtain ⟨rfl, rfl, rfl, rfl, rfl, rfl⟩ := H
         have hnb74 := NB222_213.out
         have hnc74 := NB213_222.out
         have hnb75 := NB222_0.out
         have hnc75 := NB0_222.out
         obtain ⟨hcz76_0, hcz76_1, hcz76_2, hcz76_3, hcz76_4, hfz76_0, hfz76_1, hfz76_2, hfz76_3, hfz76_4⟩ := cel5 BK222.out
         have hnb77 := NB213_0.out
         have hnc77 := NB0_213.out
         obtain ⟨hcz78_0, hcz78_1, hcz78_2, hcz78_3, hcz78_4, hfz78_0, hfz78_1, hfz78_2, hfz78_3, hfz78_4⟩ := cel5 BK213.out
         obtain ⟨Ao79, co79, eo79⟩ := Kd.N_slice HO_223004.out
         subst eo79
         go_wp2
         refine bodyPost_ret (results_cell_row rfl _ _ gb213 27 #[.int .i64 x223000_1, .int .i64 x223001_1, .int .i64 x223002_1, .int .i64 x223003_1, .slice Ao79 x223004_1.length co79] (0, 0) _ rfl (pF BK213.out) Tryz.underlying27 rfl (by kernel_rfl)) rfl ?_
         exact ⟨_, rfx, by (with_reducible repeat (first | apply Kd.N_alloc | apply Kd.N_drewN | apply Kd.N_drew)); exact Kd.N_mono (Kd.N_far (p := ⟨gb213, 4, none⟩) (Kd.N_far (p := ⟨gb213, 3, none⟩) (Kd.N_far (p := ⟨gb213, 2, none⟩) (Kd.N_far (p := ⟨gb213, 1, none⟩) (Kd.N_far (p := ⟨gb213, 0, none⟩) (Kd.N_mono HO_223004.out (fun k_ hk => (⟨hk, hk.2.1⟩ : _ ∧ k_ ≠ gb213))) (fun _ hk => hk.2) (.int .i64 x223000_1)) (fun _ hk => hk.2) (.int .i64 x223001_1)) (fun _ hk => hk.2) (.int .i64 x223002_1)) (fun _ hk => hk.2) (.int .i64 x223003_1)) (fun _ hk => hk.2) (.slice Ao79 x223004_1.length co79)) (fun _ hk => hk.1.1), mI93_1 HI0.out, mB93HI0 HB.out, mKp HK.out⟩
     ·rw [if_neg c59] at H
      have c59b0 : (t223 == 4) = false := beq_eq_false_iff_ne.mpr c59
      have c59b1 : (t223 != 4) = true := bne_iff_ne.mpr c59
      simp only [Option.some.injEq, Prod.mk.injEq] at H
      obtain ⟨rfl, rfl, rfl, rfl, rfl, rfl⟩ := H
      have hnb80 := NB222_213.out
      have hnc80 := NB213_222.out
      have hnb81 := NB222_0.out
      have hnc81 := NB0_222.out
      obtain ⟨hcz82_0, hcz82_1, hcz82_2, hcz82_3, hcz82_4, hfz82_0, hfz82_1, hfz82_2, hfz82_3, hfz82_4⟩ := cel5 BK222.out
      have hnb83 := NB213_0.out
      have hnc83 := NB0_213.out
      obtain ⟨hcz84_0, hcz84_1, hcz84_2, hcz84_3, hcz84_4, hfz84_0, hfz84_1, hfz84_2, hfz84_3, hfz84_4⟩ := cel5 BK213.out
      go_wp2
      refine bodyPost_ret (results_cell_row rfl _ _ gb213 27 #[.int .i64 t214, .int .i64 t215, .int .i64 t216, .int .i64 t217, .slice Ao11 t218.length co11] (0, 0) _ rfl (pF BK213.out) Tryz.underlying27 rfl (by kernel_rfl)) rfl ?_
      exact ⟨_, rfx, by (with_reducible repeat (first | apply Kd.N_alloc | apply Kd.N_drewN | apply Kd.N_drew)); exact Kd.N_mono (Kd.N_far (p := ⟨gb213, 4, none⟩) (Kd.N_far (p := ⟨gb213, 3, none⟩) (Kd.N_far (p := ⟨gb213, 2, none⟩) (Kd.N_far (p := ⟨gb213, 1, none⟩) (Kd.N_far (p := ⟨gb213, 0, none⟩) (Kd.N_mono HO220.out (fun k_ hk => (⟨hk, hk.1.2.1⟩ : _ ∧ k_ ≠ gb213))) (fun _ hk => hk.2) (.int .i64 t214)) (fun _ hk => hk.2) (.int .i64 t215)) (fun _ hk => hk.2) (.int .i64 t216)) (fun _ hk => hk.2) (.int .i64 t217)) (fun _ hk => hk.2) (.slice Ao11 t218.length co11)) (fun _ hk => hk.1.1.1), mI93_1 HI0.out, mB93HI0 HB.out, mKp HK.out⟩

/-! ### slices_Equal_int_int: function 41 -/
def slices_Equal_int_int.l0 : Nat → List Int → List Int → Int → Int → Option (Bool)
 | 0, _, _, _, _ => none
 | k + 1, x0, x1, x12, x13 => if x13 < x12 then (if 0 ≤ x13 then (if x13 < (x0.length : Int) then (if x13 < (x1.length : Int) then (if (rd x0 x13) = (rd x1 x13) then (slices_Equal_int_int.l0 k x0 x1 x12 (wrap64 (x13 + 1))) else (some false)) else (none)) else (none)) else (none)) else (some true)
def slices_Equal_int_int.f (k : Nat) (l0 : List Int) (l1 : List Int) : Option (Bool) := if (l0.length : Int) = (l1.length : Int) then (slices_Equal_int_int.l0 k l0 l1 (l0.length : Int) 0) else (some false)
set_option maxHeartbeats 8000000 in
set_option maxRecDepth 100000 in
theorem slices_Equal_int_int.calls (k : Nat) (A0 : Option Addr) (c0 : Nat) (l0 : List Int) (A1 : Option Addr) (c1 : Nat) (l1 : List Int) (r : Bool) (w : World) (hr0 : Kd.C (Kd.int .i64) w A0 l0.length l0) (hc0 : l0.length ≤ c0) (hr1 : Kd.C (Kd.int .i64) w A1 l1.length l1) (hc1 : l1.length ≤ c1) (h : slices_Equal_int_int.f k l0 l1 = some r) :
  Calls Tryz.prog 41 #[.slice A0 l0.length c0, .slice A1 l1.length c1] w fun e w' => e = .returned (.bool r) ∧ Drawn0 w w' := by
 have HR0 := z0 hr0
 have HC0 := z0 hc0
 clear hr0 hc0
 have HR1 := z0 hr1
 have HC1 := z0 hc1
 clear hr1 hc1
 have H : (if (l0.length : Int) = (l1.length : Int) then (slices_Equal_int_int.l0 k l0 l1 (l0.length : Int) 0) else (some false)) = some r := h
 clear h
 by_cases c3 : (l0.length : Int) = (l1.length : Int)
 ·rw [if_pos c3] at H
  have c3b0 : ((l0.length : Int) == (l1.length : Int)) = true := beq_iff_eq.mpr c3
  have c3b1 : ((l0.length : Int) != (l1.length : Int)) = false := bne_eq_false_iff_eq.mpr c3
  have c3b2 : (l0.length == l1.length) = true := by first | simpa using c3 | (simp at c3 ⊢; omega)
  clear c3
  have H' := z0 H
  clear H
  go_enter Tryz.func41, Tryz.ntmps41
  go_wp2
  repeat (go_quiet (fail); try go_wp2)
  go_loopg [13] k (fun kq v13 w' => ∃ (x13_1 : Int), v13 = .int .i64 x13_1 ∧ Aside0 (slices_Equal_int_int.l0 kq l0 l1 (l0.length : Int) x13_1 = some r) ∧ Aside0 (kq ≤ k) ∧ Drawn0 w w')
  case atStart => exact ⟨(0), rfy, H', ⟨Nat.le_refl _⟩, by repeat (first | exact Drawn0.refl _ | apply Drawn0.step)⟩
  case round =>
   clear H'
   (try clear c1); (try clear c3); (try clear c3b0); (try clear c3b1); (try clear c3b2)
   obtain ⟨x13_1, rfl, HA, HK1, ⟨m1, rfl⟩⟩ := hrel
   cases gk with
   | zero => exact absurd HA.out (by simp [slices_Equal_int_int.l0])
   | succ k1 =>
    have H := HA.out
    clear HA
    simp only [slices_Equal_int_int.l0] at H
    by_cases c4 : x13_1 < (l0.length : Int)
    ·rw [if_pos c4] at H
     have c4b0 : decide (x13_1 < (l0.length : Int)) = true := decide_eq_true c4
     clear c4
     by_cases c5 : 0 ≤ x13_1
     ·rw [if_pos c5] at H
      have c5b0 : decide (0 ≤ x13_1) = true := decide_eq_true c5
      clear c5
      by_cases c6 : x13_1 < (l0.length : Int)
      ·rw [if_pos c6] at H
       have c6b0 : decide (x13_1 < (l0.length : Int)) = true := decide_eq_true c6
       clear c6
       by_cases c7 : x13_1 < (l1.length : Int)
       ·rw [if_pos c7] at H
        have c7b0 : decide (x13_1 < (l1.length : Int)) = true := decide_eq_true c7
        clear c7
        by_cases c8 : (rd l0 x13_1) = (rd l1 x13_1)
        ·rw [if_pos c8] at H
         have c8b0 : ((rd l0 x13_1) == (rd l1 x13_1)) = true := beq_iff_eq.mpr c8
         have c8b1 : ((rd l0 x13_1) != (rd l1 x13_1)) = false := bne_eq_false_iff_eq.mpr c8
         clear c8
         have H' := z0 H
         clear H
         have p505 : 0 ≤ (x13_1 : Int) := of_decide_eq_true (by first | (with_reducible assumption) | assumption)
         have q505 : x13_1 < (l0.length : Int) := of_decide_eq_true (by first | (with_reducible assumption) | assumption)
         obtain ⟨ad505, e505, hx505_0⟩ := Kd.at_int HR0.out x13_1 p505 q505
         cases e505
         replace p505 := eq_true p505
         replace q505 := eq_true q505
         have p506 : 0 ≤ (x13_1 : Int) := of_decide_eq_true (by first | (with_reducible assumption) | assumption)
         have q506 : x13_1 < (l1.length : Int) := of_decide_eq_true (by first | (with_reducible assumption) | assumption)
         obtain ⟨ad506, e506, hx506_0⟩ := Kd.at_int HR1.out x13_1 p506 q506
         cases e506
         replace p506 := eq_true p506
         replace q506 := eq_true q506
         go_wp2
         repeat (go_quiet (fail); try go_wp2)
         go_roundg k1
         case measure => have := HK1.out; omega
         case rel => exact ⟨(wrap64 (x13_1 + 1)), rfy, H', ⟨by have := HK1.out; omega⟩, by repeat (first | exact Drawn0.refl _ | apply Drawn0.step)⟩
        ·rw [if_neg c8] at H
         have c8b0 : ((rd l0 x13_1) == (rd l1 x13_1)) = false := beq_eq_false_iff_ne.mpr c8
         have c8b1 : ((rd l0 x13_1) != (rd l1 x13_1)) = true := bne_iff_ne.mpr c8
         obtain rfl := Option.some.inj H
         have p505 : 0 ≤ (x13_1 : Int) := of_decide_eq_true (by first | (with_reducible assumption) | assumption)
         have q505 : x13_1 < (l0.length : Int) := of_decide_eq_true (by first | (with_reducible assumption) | assumption)
         obtain ⟨ad505, e505, hx505_0⟩ := Kd.at_int HR0.out x13_1 p505 q505
         cases e505
         replace p505 := eq_true p505
         replace q505 := eq_true q505
         have p506 : 0 ≤ (x13_1 : Int) := of_decide_eq_true (by first | (with_reducible assumption) | assumption)
         have q506 : x13_1 < (l1.length : Int) := of_decide_eq_true (by first | (with_reducible assumption) | assumption)
         obtain ⟨ad506, e506, hx506_0⟩ := Kd.at_int HR1.out x13_1 p506 q506
         cases e506
         replace p506 := eq_true p506
         replace q506 := eq_true q506
         go_wp2
         repeat (go_quiet (fail); try go_wp2)
         go_ret
         exact ⟨by first | rfl | (simp; done) | (simp [*]; done), by repeat (first | exact Drawn0.refl _ | apply Drawn0.step)⟩
       ·rw [if_neg c7] at H
        exact absurd H (by simp)
      ·rw [if_neg c6] at H
       exact absurd H (by simp)
     ·rw [if_neg c5] at H
      exact absurd H (by simp)
    ·rw [if_neg c4] at H
     have c4b0 : decide (x13_1 < (l0.length : Int)) = false := decide_eq_false c4
     clear c4
     obtain rfl := Option.some.inj H
     go_wp2
     repeat (go_quiet (fail); try go_wp2)
     go_ret
     exact ⟨by first | rfl | (simp; done) | (simp [*]; done), by repeat (first | exact Drawn0.refl _ | apply Drawn0.step)⟩
 ·rw [if_neg c3] at H
  have c3b0 : ((l0.length : Int) == (l1.length : Int)) = false := beq_eq_false_iff_ne.mpr c3
  have c3b1 : ((l0.length : Int) != (l1.length : Int)) = true := bne_iff_ne.mpr c3
  have c3b2 : (l0.length == l1.length) = false := by first | simpa using c3 | (simp at c3 ⊢; omega)
  obtain rfl := Option.some.inj H
  go_enter Tryz.func41, Tryz.ntmps41
  go_wp2
  repeat (go_quiet (fail); try go_wp2)
  go_ret
  exact ⟨by first | rfl | (simp; done) | (simp [*]; done), by repeat (first | exact Drawn0.refl _ | apply Drawn0.step)⟩

/-! ### impl_MemSame: function 14 -/
def impl_MemSame.f (k : Nat) (l0_0 : List Int) (l0_1 : List Int) (l0_2 : List Int) (l1_0 : List Int) (l1_1 : List Int) (l1_2 : List Int) : Option (Bool) := (slices_Equal_int_int.f k l0_0 l1_0).bind fun t509 => (if t509 = true then ((slices_Equal_int_int.f k l0_1 l1_1).bind fun t510 => (if t510 = true then ((slices_Equal_int_int.f k l0_2 l1_2).bind fun t511 => (some t511)) else (some false))) else (some false))
set_option maxHeartbeats 8000000 in
set_option maxRecDepth 100000 in
theorem impl_MemSame.calls (k : Nat) (A0_0 : Option Addr) (c0_0 : Nat) (l0_0 : List Int) (A0_1 : Option Addr) (c0_1 : Nat) (l0_1 : List Int) (A0_2 : Option Addr) (c0_2 : Nat) (l0_2 : List Int) (A1_0 : Option Addr) (c1_0 : Nat) (l1_0 : List Int) (A1_1 : Option Addr) (c1_1 : Nat) (l1_1 : List Int) (A1_2 : Option Addr) (c1_2 : Nat) (l1_2 : List Int) (r : Bool) (w : World) (hr0_0 : Kd.C (Kd.int .i64) w A0_0 l0_0.length l0_0) (hc0_0 : l0_0.length ≤ c0_0) (hr0_1 : Kd.C (Kd.int .i64) w A0_1 l0_1.length l0_1) (hc0_1 : l0_1.length ≤ c0_1) (hr0_2 : Kd.C (Kd.int .i64) w A0_2 l0_2.length l0_2) (hc0_2 : l0_2.length ≤ c0_2) (hr1_0 : Kd.C (Kd.int .i64) w A1_0 l1_0.length l1_0) (hc1_0 : l1_0.length ≤ c1_0) (hr1_1 : Kd.C (Kd.int .i64) w A1_1 l1_1.length l1_1) (hc1_1 : l1_1.length ≤ c1_1) (hr1_2 : Kd.C (Kd.int .i64) w A1_2 l1_2.length l1_2) (hc1_2 : l1_2.length ≤ c1_2) (h : impl_MemSame.f k l0_0 l0_1 l0_2 l1_0 l1_1 l1_2 = some r) :
  Calls Tryz.prog 14 #[.agg #[.slice A0_0 l0_0.length c0_0, .slice A0_1 l0_1.length c0_1, .slice A0_2 l0_2.length c0_2], .agg #[.slice A1_0 l1_0.length c1_0, .slice A1_1 l1_1.length c1_1, .slice A1_2 l1_2.length c1_2]] w fun e w' => e = .returned (.bool r) ∧ Below w.heap.size w w' := by
 have hu30 := Tryz.underlying30
 have HR0_0 := z0 hr0_0
 have HC0_0 := z0 hc0_0
 clear hr0_0 hc0_0
 have HR0_1 := z0 hr0_1
 have HC0_1 := z0 hc0_1
 clear hr0_1 hc0_1
 have HR0_2 := z0 hr0_2
 have HC0_2 := z0 hc0_2
 clear hr0_2 hc0_2
 have HR1_0 := z0 hr1_0
 have HC1_0 := z0 hc1_0
 clear hr1_0 hc1_0
 have HR1_1 := z0 hr1_1
 have HC1_1 := z0 hc1_1
 clear hr1_1 hc1_1
 have HR1_2 := z0 hr1_2
 have HC1_2 := z0 hc1_2
 clear hr1_2 hc1_2
 have HB := z0 (Below.refl w.heap.size w)
 have H : ((slices_Equal_int_int.f k l0_0 l1_0).bind fun t509 => (if t509 = true then ((slices_Equal_int_int.f k l0_1 l1_1).bind fun t510 => (if t510 = true then ((slices_Equal_int_int.f k l0_2 l1_2).bind fun t511 => (some t511)) else (some false))) else (some false))) = some r := h
 clear h
 have HF3 := z0 H
 clear H
 go_enter Tryz.func14, Tryz.ntmps14
 go_upto_region 1 with (first | ((with_reducible refine gate_dst (N := 2) rfl ?_); refine box_event ?hg (N := 2) ?hd (cs := #[.slice A0_0 l0_0.length c0_0, .slice A0_1 l0_1.length c0_1, .slice A0_2 l0_2.length c0_2]) (t := 30) ?hr ?_; (case hd => rfl); (case hg => rfl); (case hr => first | (go_simp; done) | (go_simp; rfl)); intro gb507 hg w4 hbox hb; have n_ := az (below_step (mB HB.out) hb) <| az (hbox) <| az ((by rw [hg]; exact (below_size (mB HB.out)) : w.heap.size ≤ gb507)) <| z0 ((by rw [hg]; exact (below_size (mB HB.out)) : w.heap.size ≤ gb507)); clear HB; obtain ⟨HB, BK507, GW507, GE507⟩ := n_; clear hb hbox hg) | ((with_reducible refine gate_dst (N := 3) rfl ?_); refine box_event ?hg (N := 3) ?hd (cs := #[.slice A1_0 l1_0.length c1_0, .slice A1_1 l1_1.length c1_1, .slice A1_2 l1_2.length c1_2]) (t := 30) ?hr ?_; (case hd => rfl); (case hg => rfl); (case hr => first | (go_simp; done) | (go_simp; rfl)); intro gb508 hg w5 hbox hb; have n_ := az (bB BK507.out hb) <| az (below_step (mB HB.out) hb) <| az (hbox) <| az ((by rw [hg]; exact (below_size (mB HB.out)) : w.heap.size ≤ gb508)) <| az ((by rw [hg]; exact (below_size (mB HB.out)) : w.heap.size ≤ gb508)) <| az ((nL hg BK507.out)) <| z0 ((nG hg BK507.out)); clear BK507 HB; obtain ⟨BK507, HB, BK508, GW508, GE508, NB507_508, NB508_507⟩ := n_; clear hb hbox hg))
 (try simp only [Act.put, List.setIfInBounds_toArray, List.set_cons_zero, List.set_cons_succ])
 have H := HF3.out
 clear HF3
 try clear c1
 replace H := Option.bind_eq_some_iff.mp H
 obtain ⟨t509, A60, H⟩ := H
 try dsimp only at H
 have A6 := z0 A60
 clear A60
 by_cases c7 : t509 = true
 ·subst c7
  have H1 : ((slices_Equal_int_int.f k l0_1 l1_1).bind fun t510 => (if t510 = true then ((slices_Equal_int_int.f k l0_2 l1_2).bind fun t511 => (some t511)) else (some false))) = some r := by rw [if_pos rfl] at H; exact H
  clear H
  have H := H1
  clear H1
  replace H := Option.bind_eq_some_iff.mp H
  obtain ⟨t510, A80, H⟩ := H
  try dsimp only at H
  have A8 := z0 A80
  clear A80
  by_cases c9 : t510 = true
  ·subst c9
   have H1 : ((slices_Equal_int_int.f k l0_2 l1_2).bind fun t511 => (some t511)) = some r := by rw [if_pos rfl] at H; exact H
   clear H
   have H := H1
   clear H1
   replace H := Option.bind_eq_some_iff.mp H
   obtain ⟨t511, A100, H⟩ := H
   try dsimp only at H
   have A10 := z0 A100
   clear A100
   obtain rfl := Option.some.inj H
   have hnb11 := NB507_508.out
   have hnc11 := NB508_507.out
   obtain ⟨hcz12_0, hcz12_1, hcz12_2, hfz12_0, hfz12_1, hfz12_2⟩ := cel3 BK507.out
   obtain ⟨hcz13_0, hcz13_1, hcz13_2, hfz13_0, hfz13_1, hfz13_2⟩ := cel3 BK508.out
   go_wp2_with (first | ((with_reducible refine gate_callee (f := 41) rfl ?_); refine goesL_ (some 9) rfl rfl Tryz.func41 (by kernel_rfl) rfl #[.slice A0_0 l0_0.length c0_0, .slice A1_0 l1_0.length c1_0] rfl argx ?_; (with_reducible refine (slices_Equal_int_int.calls k _ _ l0_0 _ _ l1_0 true _ ?side1 ?side2 ?side3 ?side4 A6.out).mono ?_); (case side1 => exact mC (Kd.C_below HR0_0.out HB.out)); (case side2 => exact HC0_0.out); (case side3 => exact mC (Kd.C_below HR1_0.out HB.out)); (case side4 => exact HC1_0.out); rintro e w' ⟨rfl, ⟨nd, rfl⟩⟩; refine ⟨_, rfl, ?_⟩) | (go_at_call 41; (with_reducible refine (slices_Equal_int_int.calls k _ _ l0_1 _ _ l1_1 true _ ?side1 ?side2 ?side3 ?side4 A8.out).mono ?_); (case side1 => exact mC (Kd.C_below HR0_1.out (mB HB.out))); (case side2 => exact HC0_1.out); (case side3 => exact mC (Kd.C_below HR1_1.out (mB HB.out))); (case side4 => exact HC1_1.out); rintro e w' ⟨rfl, ⟨nd, rfl⟩⟩) | (go_at_call 41; (with_reducible refine (slices_Equal_int_int.calls k _ _ l0_2 _ _ l1_2 t511 _ ?side1 ?side2 ?side3 ?side4 A10.out).mono ?_); (case side1 => exact mC (Kd.C_below HR0_2.out (mB HB.out))); (case side2 => exact HC0_2.out); (case side3 => exact mC (Kd.C_below HR1_2.out (mB HB.out))); (case side4 => exact HC1_2.out); rintro e w' ⟨rfl, ⟨nd, rfl⟩⟩))
   go_ret
   exact ⟨rfx, mB HB.out⟩
  ·replace c9 := Bool.eq_false_iff.mpr c9
   subst c9
   have H1 : (some false) = some r := by rw [if_neg (show ¬ (false = true) by decide)] at H; exact H
   clear H
   have H := H1
   clear H1
   obtain rfl := Option.some.inj H
   have hnb14 := NB507_508.out
   have hnc14 := NB508_507.out
   obtain ⟨hcz15_0, hcz15_1, hcz15_2, hfz15_0, hfz15_1, hfz15_2⟩ := cel3 BK507.out
   obtain ⟨hcz16_0, hcz16_1, hcz16_2, hfz16_0, hfz16_1, hfz16_2⟩ := cel3 BK508.out
   go_wp2_with (first | ((with_reducible refine gate_callee (f := 41) rfl ?_); refine goesL_ (some 9) rfl rfl Tryz.func41 (by kernel_rfl) rfl #[.slice A0_0 l0_0.length c0_0, .slice A1_0 l1_0.length c1_0] rfl argx ?_; (with_reducible refine (slices_Equal_int_int.calls k _ _ l0_0 _ _ l1_0 true _ ?side1 ?side2 ?side3 ?side4 A6.out).mono ?_); (case side1 => exact mC (Kd.C_below HR0_0.out HB.out)); (case side2 => exact HC0_0.out); (case side3 => exact mC (Kd.C_below HR1_0.out HB.out)); (case side4 => exact HC1_0.out); rintro e w' ⟨rfl, ⟨nd, rfl⟩⟩; refine ⟨_, rfl, ?_⟩) | (go_at_call 41; (with_reducible refine (slices_Equal_int_int.calls k _ _ l0_1 _ _ l1_1 false _ ?side1 ?side2 ?side3 ?side4 A8.out).mono ?_); (case side1 => exact mC (Kd.C_below HR0_1.out (mB HB.out))); (case side2 => exact HC0_1.out); (case side3 => exact mC (Kd.C_below HR1_1.out (mB HB.out))); (case side4 => exact HC1_1.out); rintro e w' ⟨rfl, ⟨nd, rfl⟩⟩))
   go_ret
   exact ⟨rfx, mB HB.out⟩
 ·replace c7 := Bool.eq_false_iff.mpr c7
  subst c7
  have H1 : (some false) = some r := by rw [if_neg (show ¬ (false = true) by decide)] at H; exact H
  clear H
  have H := H1
  clear H1
  obtain rfl := Option.some.inj H
  have hnb17 := NB507_508.out
  have hnc17 := NB508_507.out
  obtain ⟨hcz18_0, hcz18_1, hcz18_2, hfz18_0, hfz18_1, hfz18_2⟩ := cel3 BK507.out
  obtain ⟨hcz19_0, hcz19_1, hcz19_2, hfz19_0, hfz19_1, hfz19_2⟩ := cel3 BK508.out
  go_wp2_with (first | ((with_reducible refine gate_callee (f := 41) rfl ?_); refine goesL_ (some 9) rfl rfl Tryz.func41 (by kernel_rfl) rfl #[.slice A0_0 l0_0.length c0_0, .slice A1_0 l1_0.length c1_0] rfl argx ?_; (with_reducible refine (slices_Equal_int_int.calls k _ _ l0_0 _ _ l1_0 false _ ?side1 ?side2 ?side3 ?side4 A6.out).mono ?_); (case side1 => exact mC (Kd.C_below HR0_0.out HB.out)); (case side2 => exact HC0_0.out); (case side3 => exact mC (Kd.C_below HR1_0.out HB.out)); (case side4 => exact HC1_0.out); rintro e w' ⟨rfl, ⟨nd, rfl⟩⟩; refine ⟨_, rfl, ?_⟩))
  go_ret
  exact ⟨rfx, mB HB.out⟩

end Go.Proofs.YtendbgedpjcocaaGreatDoor.B
namespace Go.Proofs.YtendbgedpjcocaaGreatDoor.B
open Go.RowKit Go.Proofs.YtendbgedpjcocaaGreatDoorW.PrintWords Go.Proofs.YtendbgedpjcocaaGreatDoorW.PrintLast Go.Proofs.YtendbgedpjcocaaGreatDoorW.PrintMore
attribute [local go_sem] max2_int min2_int max_two min_two max_three min_three max_four min_four   -- for this text's walks alone
set_option linter.unusedVariables false
set_option linter.unusedSimpArgs false

attribute [local go_sem high] eqA24
/-! ### laws_wsReads: function 13 -/
mutual
def laws_wsReads.j0 : Nat → Bool → Int → Int → Int → Int → List (S27) → Int → Int → Option (Bool)
 | 0, _, _, _, _, _, _, _, _ => none
 | k + 1, x14, x502000, x502001, x502002, x502003, x502004, x503000, x503001 => if x14 = true then (some true) else (laws_wsReads.l0 k 0 x502000 x502001 x502002 x502003 x502004 x503000 x503001)
def laws_wsReads.l0 : Nat → Int → Int → Int → Int → Int → List (S27) → Int → Int → Option (Bool)
 | 0, _, _, _, _, _, _, _, _ => none
 | k + 1, x5, x502000, x502001, x502002, x502003, x502004, x503000, x503001 => if x5 < (x502004.length : Int) then (if 0 ≤ x5 then ((laws_wsReads.f k ((rd_T27 x502004 x5).f0) ((rd_T27 x502004 x5).f1) ((rd_T27 x502004 x5).f2.f0) ((rd_T27 x502004 x5).f2.f1) ((rd_T27 x502004 x5).f3) x503000 x503001).bind fun t504 => (if t504 = true then (some true) else (laws_wsReads.l0 k (wrap64 (x5 + 1)) x502000 x502001 x502002 x502003 x502004 x503000 x503001))) else (none)) else (some false)
def laws_wsReads.f : Nat → Int → Int → Int → Int → List (S27) → Int → Int → Option (Bool)
 | 0, _, _, _, _, _, _, _ => none
 | k + 1, a0_0, a0_1, a0_2, a0_3, l0_4, a1_0, a1_1 => if a0_0 = 2 then (laws_wsReads.j0 k (a0_2 == a1_0 && (a0_3 == a1_1)) a0_0 a0_1 a0_2 a0_3 l0_4 a1_0 a1_1) else (laws_wsReads.j0 k false a0_0 a0_1 a0_2 a0_3 l0_4 a1_0 a1_1)
end
set_option maxHeartbeats 8000000 in
set_option maxRecDepth 100000 in
theorem laws_wsReads.calls (k : Nat) : ∀ (a0_0 : Int) (a0_1 : Int) (a0_2 : Int) (a0_3 : Int) (A0_4 : Option Addr) (c0_4 : Nat) (l0_4 : List (S27)) (a1_0 : Int) (a1_1 : Int) (r : Bool) (w : World) (hr0_4 : Kd.C k27 w A0_4 l0_4.length l0_4) (hc0_4 : l0_4.length ≤ c0_4) (h : laws_wsReads.f k a0_0 a0_1 a0_2 a0_3 l0_4 a1_0 a1_1 = some r),
  Calls Tryz.prog 13 #[.agg #[.int .i64 a0_0, .int .i64 a0_1, .int .i64 a0_2, .int .i64 a0_3, .slice A0_4 l0_4.length c0_4], .agg #[.int .i64 a1_0, .int .i64 a1_1]] w fun e w' => e = .returned (.bool r) ∧ Below w.heap.size w w' := by
 induction k using Nat.strongRecOn with
 | _ k ih =>
 intro a0_0 a0_1 a0_2 a0_3 A0_4 c0_4 l0_4 a1_0 a1_1 r w hr0_4 hc0_4 h
 cases k with
 | zero => exact absurd h (by simp [laws_wsReads.f])
 | succ k =>
 simp only [laws_wsReads.f] at h
 have hu27 := Tryz.underlying27
 have hu24 := Tryz.underlying24
 have HR0_4 := z0 hr0_4
 have HC0_4 := z0 hc0_4
 clear hr0_4 hc0_4
 have HB := z0 (Below.refl w.heap.size w)
 have H : (if a0_0 = 2 then (laws_wsReads.j0 k (a0_2 == a1_0 && (a0_3 == a1_1)) a0_0 a0_1 a0_2 a0_3 l0_4 a1_0 a1_1) else (laws_wsReads.j0 k false a0_0 a0_1 a0_2 a0_3 l0_4 a1_0 a1_1)) = some r := h
 clear h
 have HC3 := z0 H
 clear H
 go_enter Tryz.func13, Tryz.ntmps13
 go_upto_region 1 with (first | ((with_reducible refine gate_dst (N := 2) rfl ?_); refine box_event ?hg (N := 2) ?hd (cs := #[.int .i64 a0_0, .int .i64 a0_1, .int .i64 a0_2, .int .i64 a0_3, .slice A0_4 l0_4.length c0_4]) (t := 27) ?hr ?_; (case hd => rfl); (case hg => rfl); (case hr => first | (go_simp; done) | (go_simp; rfl)); intro gb501 hg w4 hbox hb; have n_ := az (below_step (mB HB.out) hb) <| az (hbox) <| az ((by rw [hg]; exact (below_size (mB HB.out)) : w.heap.size ≤ gb501)) <| z0 ((by rw [hg]; exact (below_size (mB HB.out)) : w.heap.size ≤ gb501)); clear HB; obtain ⟨HB, BK501, GW501, GE501⟩ := n_; clear hb hbox hg) | ((with_reducible refine gate_dst (N := 3) rfl ?_); refine box_event ?hg (N := 3) ?hd (cs := #[.int .i64 a1_0, .int .i64 a1_1]) (t := 24) ?hr ?_; (case hd => rfl); (case hg => rfl); (case hr => first | (go_simp; done) | (go_simp; rfl)); intro gb502 hg w5 hbox hb; have n_ := az (bB BK501.out hb) <| az (below_step (mB HB.out) hb) <| az (hbox) <| az ((by rw [hg]; exact (below_size (mB HB.out)) : w.heap.size ≤ gb502)) <| az ((by rw [hg]; exact (below_size (mB HB.out)) : w.heap.size ≤ gb502)) <| az ((nL hg BK501.out)) <| z0 ((nG hg BK501.out)); clear BK501 HB; obtain ⟨BK501, HB, BK502, GW502, GE502, NB501_502, NB502_501⟩ := n_; clear hb hbox hg))
 (try simp only [Act.put, List.setIfInBounds_toArray, List.set_cons_zero, List.set_cons_succ])
 go_cut [14] (fun v14 wc => ∃ (kq : Nat) (x14_2 : Bool), v14 = .bool x14_2 ∧ Aside0 (laws_wsReads.j0 kq x14_2 a0_0 a0_1 a0_2 a0_3 l0_4 a1_0 a1_1 = some r) ∧ Aside0 (kq ≤ k) ∧ Aside0 (wc.heap[gb501]? = some (.cells #[.int .i64 a0_0, .int .i64 a0_1, .int .i64 a0_2, .int .i64 a0_3, (.slice A0_4 l0_4.length c0_4)] 27 (0, 0))) ∧ Aside0 (wc.heap[gb502]? = some (.cells #[.int .i64 a1_0, .int .i64 a1_1] 24 (0, 0))) ∧ Aside0 (Below w.heap.size w wc))
 case first =>
  have H := HC3.out
  clear HC3
  by_cases c6 : a0_0 = 2
  ·rw [if_pos c6] at H
   have c6b0 : (a0_0 == 2) = true := beq_iff_eq.mpr c6
   have c6b1 : (a0_0 != 2) = false := bne_eq_false_iff_eq.mpr c6
   clear c6
   (first | rw [c6b0] | (simp only [i64_w, i32_w]; rw [c6b0]) | skip)
   have H' := z0 H
   clear H
   have hnb7 := NB501_502.out
   have hnc7 := NB502_501.out
   obtain ⟨hcz8_0, hcz8_1, hcz8_2, hcz8_3, hcz8_4, hfz8_0, hfz8_1, hfz8_2, hfz8_3, hfz8_4⟩ := cel5 BK501.out
   obtain ⟨hcz9_0, hcz9_1, hfz9_0, hfz9_1⟩ := cel2 BK502.out
   go_wp2
   go_meet
   case rel => exact ⟨_, ((a0_2 == a1_0 && (a0_3 == a1_1))), rfy, H', ⟨by first | omega | exact Nat.le_refl _⟩, ⟨mK BK501.out⟩, ⟨mK BK502.out⟩, ⟨mB HB.out⟩⟩
  ·rw [if_neg c6] at H
   have c6b0 : (a0_0 == 2) = false := beq_eq_false_iff_ne.mpr c6
   have c6b1 : (a0_0 != 2) = true := bne_iff_ne.mpr c6
   (first | rw [c6b0] | (simp only [i64_w, i32_w]; rw [c6b0]) | skip)
   have H' := z0 H
   clear H
   have hnb10 := NB501_502.out
   have hnc10 := NB502_501.out
   obtain ⟨hcz11_0, hcz11_1, hcz11_2, hcz11_3, hcz11_4, hfz11_0, hfz11_1, hfz11_2, hfz11_3, hfz11_4⟩ := cel5 BK501.out
   go_wp2
   go_meet
   case rel => exact ⟨_, (false), rfy, H', ⟨by first | omega | exact Nat.le_refl _⟩, ⟨mK BK501.out⟩, ⟨mK BK502.out⟩, ⟨mB HB.out⟩⟩
 case rest =>
  clear HC3
  skip
  obtain ⟨kq, x14_2, rfl, HA, HJ2, BK501, BK502, HB⟩ := hcut
  cases kq with
  | zero => exact absurd HA.out (by simp [laws_wsReads.j0])
  | succ kj2 =>
   have H := HA.out
   clear HA
   simp only [laws_wsReads.j0] at H
   by_cases c12 : x14_2 = true
   ·subst c12
    have H1 : (some true) = some r := by rw [if_pos rfl] at H; exact H
    clear H
    have H := H1
    clear H1
    obtain rfl := Option.some.inj H
    go_wp2
    go_ret
    exact ⟨rfx, mB HB.out⟩
   ·replace c12 := Bool.eq_false_iff.mpr c12
    subst c12
    have H1 : (laws_wsReads.l0 kj2 0 a0_0 a0_1 a0_2 a0_3 l0_4 a1_0 a1_1) = some r := by rw [if_neg (show ¬ (false = true) by decide)] at H; exact H
    clear H
    have H := H1
    clear H1
    have H' := z0 H
    clear H
    go_wp2
    go_loopg [5] kj2 (fun kq v5 w' => ∃ (x5_2 : Int), v5 = .int .i64 x5_2 ∧ Aside0 (laws_wsReads.l0 kq x5_2 a0_0 a0_1 a0_2 a0_3 l0_4 a1_0 a1_1 = some r) ∧ Aside0 (kq ≤ kj2) ∧ Aside0 (w'.heap[gb501]? = some (.cells #[.int .i64 a0_0, .int .i64 a0_1, .int .i64 a0_2, .int .i64 a0_3, (.slice A0_4 l0_4.length c0_4)] 27 (0, 0))) ∧ Aside0 (w'.heap[gb502]? = some (.cells #[.int .i64 a1_0, .int .i64 a1_1] 24 (0, 0))) ∧ Aside0 (Below w.heap.size w w'))
    case atStart => exact ⟨(0), rfy, H', ⟨Nat.le_refl _⟩, ⟨mK BK501.out⟩, ⟨mK BK502.out⟩, ⟨mB HB.out⟩⟩
    case round =>
     clear H'
     (try clear c12)
     obtain ⟨x5_2, rfl, HA, HK2, BK501, BK502, HB⟩ := hrel
     cases gk with
     | zero => exact absurd HA.out (by simp [laws_wsReads.l0])
     | succ k2 =>
      have H := HA.out
      clear HA
      simp only [laws_wsReads.l0] at H
      by_cases c13 : x5_2 < (l0_4.length : Int)
      ·rw [if_pos c13] at H
       have c13b0 : decide (x5_2 < (l0_4.length : Int)) = true := decide_eq_true c13
       clear c13
       by_cases c14 : 0 ≤ x5_2
       ·rw [if_pos c14] at H
        have c14b0 : decide (0 ≤ x5_2) = true := decide_eq_true c14
        clear c14
        replace H := Option.bind_eq_some_iff.mp H
        obtain ⟨t504, A150, H⟩ := H
        try dsimp only at H
        have A15 := z0 A150
        clear A150
        have HF16 := z0 H
        clear H
        have hnb17 := NB501_502.out
        have hnc17 := NB502_501.out
        obtain ⟨hcz18_0, hcz18_1, hcz18_2, hcz18_3, hcz18_4, hfz18_0, hfz18_1, hfz18_2, hfz18_3, hfz18_4⟩ := cel5 BK501.out
        try go_wp2
        have n_ := az (blk_drew BK501.out) <| az (blk_drew BK502.out) <| z0 (below_drew1 HB.out)
        clear BK501 BK502 HB
        obtain ⟨BK501, BK502, HB⟩ := n_
        have p503 : 0 ≤ (x5_2 : Int) := of_decide_eq_true (by first | (with_reducible assumption) | assumption)
        have q503 : x5_2 < (l0_4.length : Int) := of_decide_eq_true (by first | (with_reducible assumption) | assumption)
        obtain ⟨ad503, A503_4, c503_4, e503, hx503_0, hx503_1, hx503_2, hx503_3, hx503_4, hl503_4, hi503_4⟩ := at_T27 HR0_4.out x5_2 p503 q503
        have hw503_4 := hx503_4
        have hw503_3 := hx503_3
        have hw503_2 := hx503_2
        have hw503_1 := hx503_1
        have hw503_0 := hx503_0
        cases e503
        replace hx503_0 := (HB.out.cell (World.block_lt_of_cell? w _ hx503_0)).trans hx503_0
        replace hx503_1 := (HB.out.cell (World.block_lt_of_cell? w _ hx503_1)).trans hx503_1
        replace hx503_2 := (HB.out.cell (World.block_lt_of_cell? w _ hx503_2)).trans hx503_2
        replace hx503_3 := (HB.out.cell (World.block_lt_of_cell? w _ hx503_3)).trans hx503_3
        replace hx503_4 := (HB.out.cell (World.block_lt_of_cell? w _ hx503_4)).trans hx503_4
        have HR503_4 := z0 hi503_4
        have HC503_4 := z0 hl503_4
        clear hi503_4 hl503_4
        replace p503 := eq_true p503
        replace q503 := eq_true q503
        refine start_ (n := 7) (S := fun w' => w'.cell? ⟨gb501, 0, none⟩ = some (.int .i64 a0_0) ∧ w'.cell? ⟨gb501, 1, none⟩ = some (.int .i64 a0_1) ∧ w'.cell? ⟨gb501, 2, none⟩ = some (.int .i64 a0_2) ∧ w'.cell? ⟨gb501, 3, none⟩ = some (.int .i64 a0_3) ∧ w'.cell? ⟨gb501, 4, none⟩ = some (.slice (some ad503) l0_4.length c0_4) ∧ w'.cell? ⟨gb502, 0, none⟩ = some (.int .i64 a1_0) ∧ w'.cell? ⟨gb502, 1, none⟩ = some (.int .i64 a1_1) ∧ w'.cell? (ad503.add ((x5_2).toNat * 5)) = some (.int .i64 ((rd_T27 l0_4 x5_2).f0)) ∧ w'.cell? ⟨(ad503.add ((x5_2).toNat * 5)).block, (ad503.add ((x5_2).toNat * 5)).off + 1, none⟩ = some (.int .i64 ((rd_T27 l0_4 x5_2).f1)) ∧ w'.cell? ⟨(ad503.add ((x5_2).toNat * 5)).block, (ad503.add ((x5_2).toNat * 5)).off + 2, none⟩ = some (.int .i64 ((rd_T27 l0_4 x5_2).f2.f0)) ∧ w'.cell? ⟨(ad503.add ((x5_2).toNat * 5)).block, (ad503.add ((x5_2).toNat * 5)).off + 3, none⟩ = some (.int .i64 ((rd_T27 l0_4 x5_2).f2.f1)) ∧ w'.cell? ⟨(ad503.add ((x5_2).toNat * 5)).block, (ad503.add ((x5_2).toNat * 5)).off + 4, none⟩ = some (.slice A503_4 ((rd_T27 l0_4 x5_2).f3).length c503_4)) (ds := []) #[false, false, false, false, false, false, false] (by kernel_rfl) rfl rfl ⟨(blk_cell BK501.out 0).trans rfl, (blk_cell BK501.out 1).trans rfl, (blk_cell BK501.out 2).trans rfl, (blk_cell BK501.out 3).trans rfl, (blk_cell BK501.out 4).trans rfl, (blk_cell BK502.out 0).trans rfl, (blk_cell BK502.out 1).trans rfl, ((HB.out.cell (World.block_lt_of_cell? w _ hw503_0)).trans hw503_0), ((HB.out.cell (World.block_lt_of_cell? w _ hw503_1)).trans hw503_1), ((HB.out.cell (World.block_lt_of_cell? w _ hw503_2)).trans hw503_2), ((HB.out.cell (World.block_lt_of_cell? w _ hw503_3)).trans hw503_3), ((HB.out.cell (World.block_lt_of_cell? w _ hw503_4)).trans hw503_4)⟩ (fun hHeld => ?_)
        generalize wr.drew = w19 at BK501 BK502 HB HR503_4 hx503_0 hx503_1 hx503_2 hx503_3 hx503_4 hHeld ⊢
        refine pure_ (i := 0) (N := some 22) (v := ?_) (a' := ?_) #[true, false, false, false, false, false, false] rfl rfl (by kernel_rfl) (fun _ _ _ h => h) (Or.inl ⟨by rfl, ?_⟩) ?_ ?_
        rotate_left
        ·intro w'
         go_simp
         with_reducible rfl
        rotate_left
        ·simp only [Act.put, List.setIfInBounds_toArray, List.set_cons_zero, List.set_cons_succ, i64_w, i32_w]
         rfl
        refine pure_ (i := 2) (N := some 24) (v := ?_) (a' := ?_) #[true, false, true, false, false, false, false] rfl rfl (by kernel_rfl) (fun _ _ _ h => h) (Or.inl ⟨by rfl, ?_⟩) ?_ ?_
        rotate_left
        ·intro w'
         go_simp
         with_reducible rfl
        rotate_left
        ·simp only [Act.put, List.setIfInBounds_toArray, List.set_cons_zero, List.set_cons_succ, i64_w, i32_w]
         rfl
        refine take_ (i := 1) (N := some 23) (v := ?_) (a' := ?_) #[true, true, true, false, false, false, false] rfl rfl (by kernel_rfl) (fun _ _ _ h => h) (Or.inl ⟨by rfl, ?_⟩) hHeld ?_ ?_
        rotate_left
        ·rintro w' ⟨s0, s1, s2, s3, s4, s5, s6, s7, s8, s9, s10, s11⟩
         go_simp
         with_reducible rfl
        rotate_left
        ·simp only [Act.put, List.setIfInBounds_toArray, List.set_cons_zero, List.set_cons_succ, i64_w, i32_w]
         rfl
        refine pure_ (i := 3) (N := some 25) (v := ?_) (a' := ?_) #[true, true, true, true, false, false, false] rfl rfl (by kernel_rfl) (fun _ _ _ h => h) (Or.inl ⟨by rfl, ?_⟩) ?_ ?_
        rotate_left
        ·intro w'
         go_simp
         with_reducible rfl
        rotate_left
        ·simp only [Act.put, List.setIfInBounds_toArray, List.set_cons_zero, List.set_cons_succ, i64_w, i32_w]
         rfl
        refine take_ (i := 4) (N := some 26) (v := ?_) (a' := ?_) #[true, true, true, true, true, false, false] rfl rfl (by kernel_rfl) (fun _ _ _ h => h) (Or.inl ⟨by rfl, ?_⟩) hHeld ?_ ?_
        rotate_left
        ·rintro w' ⟨s0, s1, s2, s3, s4, s5, s6, s7, s8, s9, s10, s11⟩
         go_simp
         with_reducible rfl
        rotate_left
        ·simp only [Act.put, List.setIfInBounds_toArray, List.set_cons_zero, List.set_cons_succ, i64_w, i32_w]
         rfl
        refine take_ (i := 5) (N := some 27) (v := ?_) (a' := ?_) #[true, true, true, true, true, true, false] rfl rfl (by kernel_rfl) (fun _ _ _ h => h) (Or.inl ⟨by rfl, ?_⟩) hHeld ?_ ?_
        rotate_left
        ·rintro w' ⟨s0, s1, s2, s3, s4, s5, s6, s7, s8, s9, s10, s11⟩
         go_simp
         with_reducible rfl
        rotate_left
        ·simp only [Act.put, List.setIfInBounds_toArray, List.set_cons_zero, List.set_cons_succ, i64_w, i32_w]
         rfl
        refine one_ (i := 6) (N := some 28) #[true, true, true, true, true, true, true] rfl rfl (by kernel_rfl) (by decide) (fun K hK => ?_)
        refine goes_ Tryz.func13 (by kernel_rfl) rfl #[.agg #[.int .i64 ((rd_T27 l0_4 x5_2).f0), .int .i64 ((rd_T27 l0_4 x5_2).f1), .int .i64 ((rd_T27 l0_4 x5_2).f2.f0), .int .i64 ((rd_T27 l0_4 x5_2).f2.f1), .slice A503_4 ((rd_T27 l0_4 x5_2).f3).length c503_4], .agg #[.int .i64 a1_0, .int .i64 a1_1]] (by rfl) rfl rfl argx ?_
        with_reducible refine (ih k2 (by have := HJ2.out; have := HK2.out; omega) ((rd_T27 l0_4 x5_2).f0) ((rd_T27 l0_4 x5_2).f1) ((rd_T27 l0_4 x5_2).f2.f0) ((rd_T27 l0_4 x5_2).f2.f1) _ _ ((rd_T27 l0_4 x5_2).f3) a1_0 a1_1 t504 _ ?side1 ?side2 A15.out).mono ?_
        (case side1 => exact mC (Kd.C_below HR503_4.out HB.out))
        (case side2 => exact HC503_4.out)
        rintro e w20 ⟨rfl, hb⟩
        refine ⟨_, rfl, ?_⟩
        have n_ := az (bB BK501.out hb) <| az (bB BK502.out hb) <| z0 (below_step (mB HB.out) hb)
        clear BK501 BK502 HB
        obtain ⟨BK501, BK502, HB⟩ := n_
        (try clear hb)
        (try clear hb2)
        (try clear hk)
        (try clear hi)
        refine hK.out _ _ ⟨(blk_cell BK501.out 0).trans rfl, (blk_cell BK501.out 1).trans rfl, (blk_cell BK501.out 2).trans rfl, (blk_cell BK501.out 3).trans rfl, (blk_cell BK501.out 4).trans rfl, (blk_cell BK502.out 0).trans rfl, (blk_cell BK502.out 1).trans rfl, ((HB.out.cell (World.block_lt_of_cell? w _ hw503_0)).trans hw503_0), ((HB.out.cell (World.block_lt_of_cell? w _ hw503_1)).trans hw503_1), ((HB.out.cell (World.block_lt_of_cell? w _ hw503_2)).trans hw503_2), ((HB.out.cell (World.block_lt_of_cell? w _ hw503_3)).trans hw503_3), ((HB.out.cell (World.block_lt_of_cell? w _ hw503_4)).trans hw503_4)⟩ (fun hHeld => ?_)
        clear hK K
        refine norm_ (a' := ?_) ?_ ?_
        rotate_left
        ·show Act.put _ (some 28) _ = _
         simp only [Act.put, List.setIfInBounds_toArray, List.set_cons_zero, List.set_cons_succ, i64_w, i32_w]
         rfl
        refine done_ (by kernel_rfl) ?_
        go_upto_if 28 with (fail)
        have H := HF16.out
        clear HF16
        (try clear c12); (try clear c13); (try clear c13b0); (try clear c14); (try clear c14b0); (try clear hcz18_0); (try clear hcz18_1); (try clear hcz18_2); (try clear hcz18_3); (try clear hcz18_4); (try clear hfz18_0); (try clear hfz18_1); (try clear hfz18_2); (try clear hfz18_3); (try clear hfz18_4); (try clear hx503_0); (try clear hx503_1); (try clear hx503_2); (try clear hx503_3); (try clear hx503_4); (try clear p503); (try clear q503)
        by_cases c21 : t504 = true
        ·subst c21
         have H1 : (some true) = some r := by rw [if_pos rfl] at H; exact H
         clear H
         have H := H1
         clear H1
         obtain rfl := Option.some.inj H
         go_wp2
         go_ret
         exact ⟨rfx, mB HB.out⟩
        ·replace c21 := Bool.eq_false_iff.mpr c21
         subst c21
         have H1 : (laws_wsReads.l0 k2 (wrap64 (x5_2 + 1)) a0_0 a0_1 a0_2 a0_3 l0_4 a1_0 a1_1) = some r := by rw [if_neg (show ¬ (false = true) by decide)] at H; exact H
         clear H
         have H := H1
         clear H1
         have H' := z0 H
         clear H
         go_wp2
         go_roundg k2
         case measure => have := HJ2.out; have := HK2.out; omega
         case rel => exact ⟨(wrap64 (x5_2 + 1)), rfy, H', ⟨by have := HJ2.out; have := HK2.out; omega⟩, ⟨mK BK501.out⟩, ⟨mK BK502.out⟩, ⟨mB HB.out⟩⟩
       ·rw [if_neg c14] at H
        exact absurd H (by simp)
      ·rw [if_neg c13] at H
       have c13b0 : decide (x5_2 < (l0_4.length : Int)) = false := decide_eq_false c13
       clear c13
       obtain rfl := Option.some.inj H
       have hnb22 := NB501_502.out
       have hnc22 := NB502_501.out
       obtain ⟨hcz23_0, hcz23_1, hcz23_2, hcz23_3, hcz23_4, hfz23_0, hfz23_1, hfz23_2, hfz23_3, hfz23_4⟩ := cel5 BK501.out
       go_wp2
       go_ret
       exact ⟨rfx, mB HB.out⟩

end Go.Proofs.YtendbgedpjcocaaGreatDoor.B
