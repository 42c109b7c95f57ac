-- printed by base.py (this claim's tool) over the kit's print
import Derived.Test.YtendbgedpjcocaaGreatDoorB0
import Derived.Test.YtendbgedpjcocaaGreatDoorSq
import Derived.Test.YtendbgedpjcocaaGreatDoorPkB
import Derived.Test.YtendbgedpjcocaaGreatDoorPkC
import Derived.Test.YtendbgedpjcocaaGreatDoorF34
namespace Go.Proofs.YtendbgedpjcocaaGreatDoor.B
open Go.RowKit Go.Proofs.YtendbgedpjcocaaGreatDoorW.PrintWords Go.Proofs.YtendbgedpjcocaaGreatDoorW.PrintLast Go.Proofs.YtendbgedpjcocaaGreatDoorW.PrintMore
attribute [local go_sem] max2_int min2_int max_two min_two max_three min_three max_four min_four   -- for this text's walks alone
set_option linter.unusedVariables false
set_option linter.unusedSimpArgs false

/-! ### spec_DrawExprOf: function 10 -/
def spec_DrawExprOf.f (k : Nat) (l0 : List Int) : Option (Int × Int × Int × Int × (List (S27)) × List Int × List Int × List Int) := (spec_l12Open.f l0).bind fun bt313 => ((spec_l3Bent.f k bt313.1 bt313.2).bind fun bt316 => ((spec_l2MemBent.f k bt313.1 bt316.2.2.2.2.2).bind fun bt325 => (some (bt316.1, bt316.2.1, bt316.2.2.1, bt316.2.2.2.1, bt316.2.2.2.2.1, bt325.1, bt325.2.1, bt325.2.2.1))))
set_option maxHeartbeats 8000000 in
set_option maxRecDepth 100000 in
theorem spec_DrawExprOf.calls (k : Nat) (A0 : Option Addr) (c0 : Nat) (l0 : List Int) (r1 : Int) (r2 : Int) (r3 : Int) (r4 : Int) (r5 : List (S27)) (r6 : List Int) (r7 : List Int) (r8 : List Int) (w : World) (hr0 : Kd.C (Kd.int .u8) w A0 l0.length l0) (hc0 : l0.length ≤ c0) (h : spec_DrawExprOf.f k l0 = some (r1, r2, r3, r4, r5, r6, r7, r8)) :
  Calls Tryz.prog 10 #[.slice A0 l0.length c0] w fun e w' => ∃ v4_ v5_ v6_ v7_ : Value, e = .returned (.tuple #[.agg #[.int .i64 r1, .int .i64 r2, .int .i64 r3, .int .i64 r4, v4_], .agg #[v5_, v6_, v7_]]) ∧ Kd.N k27 27 w' w.heap.size (fun k_ => (w.heap.size ≤ k_) ∧ nB k_ v5_ ∧ nB k_ v6_ ∧ nB k_ v7_) v4_ r5 ∧ Kd.R (Kd.int .i64) 3 w' w.heap.size (fun k_ => (w.heap.size ≤ k_) ∧ nB k_ v6_ ∧ nB k_ v7_) v5_ r6 ∧ Kd.R (Kd.int .i64) 3 w' w.heap.size (fun k_ => (w.heap.size ≤ k_) ∧ nB k_ v5_ ∧ nB k_ v7_) v6_ r7 ∧ Kd.R (Kd.int .i64) 3 w' w.heap.size (fun k_ => (w.heap.size ≤ k_) ∧ nB k_ v5_ ∧ nB k_ v6_) v7_ r8 ∧ Below w.heap.size w w' := by
 have hu27 := Tryz.underlying27
 have hu30 := Tryz.underlying30
 have HR0 := z0 hr0
 have HC0 := z0 hc0
 clear hr0 hc0
 have HB := z0 (Below.refl w.heap.size w)
 have H : ((spec_l12Open.f l0).bind fun bt313 => ((spec_l3Bent.f k bt313.1 bt313.2).bind fun bt316 => ((spec_l2MemBent.f k bt313.1 bt316.2.2.2.2.2).bind fun bt325 => (some (bt316.1, bt316.2.1, bt316.2.2.1, bt316.2.2.2.1, bt316.2.2.2.2.1, bt325.1, bt325.2.1, bt325.2.2.1))))) = some (r1, r2, r3, r4, r5, r6, r7, r8) := h
 clear h
 replace H := Option.bind_eq_some_iff.mp H
 obtain ⟨⟨t313, t314⟩, A20, H⟩ := H
 try dsimp only at H
 have A2 := z0 A20
 clear A20
 replace H := Option.bind_eq_some_iff.mp H
 obtain ⟨⟨t316, t317, t318, t319, t320, t323⟩, A30, H⟩ := H
 try dsimp only at H
 have A3 := z0 A30
 clear A30
 replace H := Option.bind_eq_some_iff.mp H
 obtain ⟨⟨t325, t328, t331, t334⟩, A40, H⟩ := H
 try dsimp only at H
 have A4 := z0 A40
 clear A40
 simp only [Option.some.injEq, Prod.mk.injEq] at H
 obtain ⟨rfl, rfl, rfl, rfl, rfl, rfl, rfl, rfl⟩ := H
 go_enter Tryz.func10, Tryz.ntmps10
 try go_wp2_with (first | ((with_reducible refine gate_dst (N := 2) rfl ?_); refine box_event ?hg (N := 2) ?hd (cs := #[.int .i64 0, .int .i64 0, .int .i64 0, .int .i64 0, .slice none 0 0]) (t := 27) ?hr ?_; (case hd => rfl); (case hg => rfl); (case hr => first | (go_simp; done) | (go_simp; rfl)); intro gb311 hg w5 hbox hb; have n_ := az (below_step (mB HB.out) hb) <| az (hbox) <| az ((by rw [hg]; exact (below_size (mB HB.out)) : w.heap.size ≤ gb311)) <| z0 ((by rw [hg]; exact (below_size (mB HB.out)) : w.heap.size ≤ gb311)); clear HB; obtain ⟨HB, BK311, GW311, GE311⟩ := n_; clear hb hbox hg) | ((with_reducible refine gate_dst (N := 3) rfl ?_); refine box_event ?hg (N := 3) ?hd (cs := #[.slice none 0 0, .slice none 0 0, .slice none 0 0]) (t := 30) ?hr ?_; (case hd => rfl); (case hg => rfl); (case hr => first | (go_simp; done) | (go_simp; rfl)); intro gb312 hg w6 hbox hb; have n_ := az (bB BK311.out hb) <| az (below_step (mB HB.out) hb) <| az (hbox) <| az ((by rw [hg]; exact (below_size (mB HB.out)) : w.heap.size ≤ gb312)) <| az ((by rw [hg]; exact (below_size (mB HB.out)) : w.heap.size ≤ gb312)) <| az ((nL hg BK311.out)) <| z0 ((nG hg BK311.out)); clear BK311 HB; obtain ⟨BK311, HB, BK312, GW312, GE312, NB311_312, NB312_311⟩ := n_; clear hb hbox hg) | ((with_reducible refine gate_callee (f := 32) rfl ?_); refine goesL_ (some 7) rfl rfl Tryz.func32 (by kernel_rfl) rfl #[.slice A0 l0.length c0] rfl argx ?_; (with_reducible refine (spec_l12Open.calls _ _ l0 t313 t314 w _ ?side1 ?side2 ?side3 A2.out).mono ?_); (case side1 => exact mB HB.out); (case side2 => exact HR0.out); (case side3 => exact HC0.out); rintro e w7 ⟨g315, rfl, hi, hb, hb2⟩; refine ⟨_, rfl, ?_⟩; have n_ := az (bB BK311.out hb2) <| az (bB BK312.out hb2) <| az (hb) <| az (hi) <| az (IsS93.ne_blk hi (bB BK311.out hb2) (by decide)) <| az (Ne.symm (IsS93.ne_blk hi (bB BK311.out hb2) (by decide))) <| az (IsS93.ne_blk hi (bB BK312.out hb2) (by decide)) <| z0 (Ne.symm (IsS93.ne_blk hi (bB BK312.out hb2) (by decide))); clear BK311 BK312 HB; obtain ⟨BK311, BK312, HB, HI315, NB315_311, NB311_315, NB315_312, NB312_315⟩ := n_; clear hb hb2 hi) | ((with_reducible refine gate_callee (f := 33) rfl ?_); refine goesL_ (some 9) rfl rfl Tryz.func33 (by kernel_rfl) rfl #[.pointer (some ⟨g315, 0, none⟩)] rfl argx ?_; (with_reducible refine (spec_l3Bent.calls k g315 t313 t314 t316 t317 t318 t319 t320 t323 w _ ?side1 ?side2 A3.out).mono ?_); (case side1 => exact mI93_1 HI315.out); (case side2 => exact mB93HI315 HB.out); rintro e w8 ⟨v321, rfl, ho0, hi, hb, hk⟩; refine ⟨_, rfl, ?_⟩; have n_ := az (kB hk BK311.out NB311_315.out) <| az (kB hk BK312.out NB312_315.out) <| az (Kd.N_lower (Kd.N_mono (ok' := fun k_ => (w.heap.size ≤ k_) ∧ k_ ≠ gb311 ∧ k_ ≠ gb312 ∧ k_ ≠ g315) ho0 (fun k_ hk_ => ⟨(Nat.le_trans (below_size (mB93HI315 HB.out)) hk_), (fB BK311.out hk_), (fB BK312.out hk_), (IsS93.fresh (mI93_1 HI315.out) k_ hk_)⟩)) (below_size (mB93HI315 HB.out))) <| az (hb) <| z0 (hi); clear BK311 BK312 HB HI315; obtain ⟨BK311, BK312, HO322, HB, HI315⟩ := n_; clear hb hk hi ho0) | ((with_reducible refine gate_dst (N := 5) rfl ?_); refine box_event ?hg (N := 5) ?hd (cs := #[.int .i64 0, .int .i64 0, .int .i64 0, .int .i64 0, .slice none 0 0]) (t := 27) ?hr ?_; (case hd => rfl); (case hg => rfl); (case hr => first | (go_simp; done) | (go_simp; rfl)); intro gb324 hg w9 hbox hb; have n_ := az (Kd.N_below (Kd.N_elderB (mN HO322.out) gb324 (Nat.le_of_eq hg.symm)) hb) <| az (bB BK311.out hb) <| az (bB BK312.out hb) <| az (IsS93.below (mI93_1 HI315.out) hb) <| az (below_step (mB93HI315 HB.out) hb) <| az (hbox) <| az ((by rw [hg]; exact (below_size (mB93HI315 HB.out)) : w.heap.size ≤ gb324)) <| az ((by rw [hg]; exact (below_size (mB93HI315 HB.out)) : w.heap.size ≤ gb324)) <| az ((nL hg BK311.out)) <| az ((nG hg BK311.out)) <| az ((nL hg BK312.out)) <| az ((nG hg BK312.out)) <| az ((by rw [hg]; exact Nat.ne_of_lt (IsS93.lt (show IsS93 w _ g315 t313 t323 from mI93_1 HI315.out)) : g315 ≠ gb324)) <| z0 ((by rw [hg]; exact Nat.ne_of_gt (IsS93.lt (show IsS93 w _ g315 t313 t323 from mI93_1 HI315.out)) : gb324 ≠ g315)); clear HO322 BK311 BK312 HI315 HB; obtain ⟨HO322, BK311, BK312, HI315, HB, BK324, GW324, GE324, NB311_324, NB324_311, NB312_324, NB324_312, NB315_324, NB324_315⟩ := n_; clear hb hbox hg; have hnb10 := NB324_311.out; have hnc10 := NB311_324.out; have hnb11 := NB324_312.out; have hnc11 := NB312_324.out; have hnb12 := NB324_315.out; have hnc12 := NB315_324.out; obtain ⟨hcz13_0, hcz13_1, hcz13_2, hcz13_3, hcz13_4, hfz13_0, hfz13_1, hfz13_2, hfz13_3, hfz13_4⟩ := cel5 BK324.out; obtain ⟨Ao14, co14, eo14⟩ := Kd.N_slice HO322.out; subst eo14))
 have n0_ : Aside0 (Kd.N k27 27 (((((w9.setCell ⟨gb324, 0, none⟩ (.int .i64 t316)).setCell ⟨gb324, 1, none⟩ (.int .i64 t317)).setCell ⟨gb324, 2, none⟩ (.int .i64 t318)).setCell ⟨gb324, 3, none⟩ (.int .i64 t319)).setCell ⟨gb324, 4, none⟩ (.slice Ao14 t320.length co14)) w.heap.size (fun k_ => (w.heap.size ≤ k_) ∧ k_ ≠ gb311 ∧ k_ ≠ gb312 ∧ k_ ≠ g315 ∧ k_ ≠ gb324) (.slice Ao14 t320.length co14) t320) := ⟨by (with_reducible repeat (first | apply Kd.N_alloc | apply Kd.N_drewN | apply Kd.N_drew)); exact Kd.N_mono (Kd.N_far (p := ⟨gb324, 4, none⟩) (Kd.N_far (p := ⟨gb324, 3, none⟩) (Kd.N_far (p := ⟨gb324, 2, none⟩) (Kd.N_far (p := ⟨gb324, 1, none⟩) (Kd.N_far (p := ⟨gb324, 0, none⟩) (Kd.N_mono HO322.out (fun k_ hk => (⟨hk, hk.2⟩ : _ ∧ k_ ≠ gb324))) (fun _ hk => hk.2) (.int .i64 t316)) (fun _ hk => hk.2) (.int .i64 t317)) (fun _ hk => hk.2) (.int .i64 t318)) (fun _ hk => hk.2) (.int .i64 t319)) (fun _ hk => hk.2) (.slice Ao14 t320.length co14)) (fun _ hk => ⟨hk.1.1.1, ⟨hk.1.1.2.1, ⟨hk.1.1.2.2.1, ⟨hk.1.1.2.2.2, hk.1.2⟩⟩⟩⟩)⟩
 have n1_ : Aside0 ((((((w9.setCell ⟨gb324, 0, none⟩ (.int .i64 t316)).setCell ⟨gb324, 1, none⟩ (.int .i64 t317)).setCell ⟨gb324, 2, none⟩ (.int .i64 t318)).setCell ⟨gb324, 3, none⟩ (.int .i64 t319)).setCell ⟨gb324, 4, none⟩ (.slice Ao14 t320.length co14)).heap[gb311]? = some (.cells #[.int .i64 0, .int .i64 0, .int .i64 0, .int .i64 0, .slice none 0 0] 27 (0, 0))) := ⟨mF BK311.out⟩
 have n2_ : Aside0 ((((((w9.setCell ⟨gb324, 0, none⟩ (.int .i64 t316)).setCell ⟨gb324, 1, none⟩ (.int .i64 t317)).setCell ⟨gb324, 2, none⟩ (.int .i64 t318)).setCell ⟨gb324, 3, none⟩ (.int .i64 t319)).setCell ⟨gb324, 4, none⟩ (.slice Ao14 t320.length co14)).heap[gb312]? = some (.cells #[.slice none 0 0, .slice none 0 0, .slice none 0 0] 30 (0, 0))) := ⟨mF BK312.out⟩
 have n3_ : Aside0 ((((((w9.setCell ⟨gb324, 0, none⟩ (.int .i64 t316)).setCell ⟨gb324, 1, none⟩ (.int .i64 t317)).setCell ⟨gb324, 2, none⟩ (.int .i64 t318)).setCell ⟨gb324, 3, none⟩ (.int .i64 t319)).setCell ⟨gb324, 4, none⟩ (.slice Ao14 t320.length co14)).heap[gb324]? = some (.cells #[.int .i64 t316, .int .i64 t317, .int .i64 t318, .int .i64 t319, .slice Ao14 t320.length co14] 27 (0, 0))) := ⟨pF BK324.out⟩
 have n4_ : Aside0 (IsS93 w (((((w9.setCell ⟨gb324, 0, none⟩ (.int .i64 t316)).setCell ⟨gb324, 1, none⟩ (.int .i64 t317)).setCell ⟨gb324, 2, none⟩ (.int .i64 t318)).setCell ⟨gb324, 3, none⟩ (.int .i64 t319)).setCell ⟨gb324, 4, none⟩ (.slice Ao14 t320.length co14)) g315 t313 t323) := ⟨mI93_1 HI315.out⟩
 have n5_ : Aside0 (Below w.heap.size w (((((w9.setCell ⟨gb324, 0, none⟩ (.int .i64 t316)).setCell ⟨gb324, 1, none⟩ (.int .i64 t317)).setCell ⟨gb324, 2, none⟩ (.int .i64 t318)).setCell ⟨gb324, 3, none⟩ (.int .i64 t319)).setCell ⟨gb324, 4, none⟩ (.slice Ao14 t320.length co14))) := ⟨mB93HI315 HB.out⟩
 (try clear HO322)
 (try clear BK311)
 (try clear BK312)
 (try clear BK324)
 (try clear HI315)
 (try clear HB)
 generalize (((((w9.setCell ⟨gb324, 0, none⟩ (.int .i64 t316)).setCell ⟨gb324, 1, none⟩ (.int .i64 t317)).setCell ⟨gb324, 2, none⟩ (.int .i64 t318)).setCell ⟨gb324, 3, none⟩ (.int .i64 t319)).setCell ⟨gb324, 4, none⟩ (.slice Ao14 t320.length co14)) = w15 at n0_ n1_ n2_ n3_ n4_ n5_ ⊢
 have HO322 := n0_
 have BK311 := n1_
 have BK312 := n2_
 have BK324 := n3_
 have HI315 := n4_
 have HB := n5_
 clear n0_ n1_ n2_ n3_ n4_ n5_
 have n_ := az (Kd.N_drew HO322.out) <| az (blk_drew BK311.out) <| az (blk_drew BK312.out) <| az (blk_drew BK324.out) <| az (IsS93.drew HI315.out) <| z0 (below_drew1 HB.out)
 clear HO322 BK311 BK312 BK324 HI315 HB
 obtain ⟨HO322, BK311, BK312, BK324, HI315, HB⟩ := n_
 refine start_ (n := 5) (S := fun w' => w'.cell? ⟨gb324, 0, none⟩ = some (.int .i64 t316) ∧ w'.cell? ⟨gb324, 1, none⟩ = some (.int .i64 t317) ∧ w'.cell? ⟨gb324, 2, none⟩ = some (.int .i64 t318) ∧ w'.cell? ⟨gb324, 3, none⟩ = some (.int .i64 t319) ∧ w'.cell? ⟨gb324, 4, none⟩ = some (.slice Ao14 t320.length co14)) (ds := []) #[false, false, false, false, false] (by kernel_rfl) rfl rfl ⟨(blk_cell BK324.out 0).trans rfl, (blk_cell BK324.out 1).trans rfl, (blk_cell BK324.out 2).trans rfl, (blk_cell BK324.out 3).trans rfl, (blk_cell BK324.out 4).trans rfl⟩ (fun hHeld => ?_)
 generalize w15.drew = w16 at HO322 BK311 BK312 BK324 HI315 HB hHeld ⊢
 refine pure_ (i := 1) (N := some 11) (v := ?_) (a' := ?_) #[false, true, false, false, false] rfl rfl (by kernel_rfl) (fun _ _ _ h => h) (Or.inl ⟨by rfl, ?_⟩) ?_ ?_
 rotate_left
 ·intro w'
  go_simp
  with_reducible rfl
 rotate_left
 ·simp only [Act.put, List.setIfInBounds_toArray, List.set_cons_zero, List.set_cons_succ, i64_w, i32_w]
  rfl
 refine take_ (i := 0) (N := some 10) (v := ?_) (a' := ?_) #[true, true, false, false, false] rfl rfl (by kernel_rfl) (fun _ _ _ h => h) (Or.inl ⟨by rfl, ?_⟩) hHeld ?_ ?_
 rotate_left
 ·rintro w' ⟨s0, s1, s2, s3, s4⟩
  go_simp
  with_reducible rfl
 rotate_left
 ·simp only [Act.put, List.setIfInBounds_toArray, List.set_cons_zero, List.set_cons_succ, i64_w, i32_w]
  rfl
 refine one_ (i := 2) (N := some 12) #[true, true, true, false, false] rfl rfl (by kernel_rfl) (by decide) (fun K hK => ?_)
 refine goes_ Tryz.func34 (by kernel_rfl) rfl #[.pointer (some ⟨g315, 0, none⟩)] (by rfl) rfl rfl argx ?_
 with_reducible refine (spec_l2MemBent.calls k g315 t313 t323 t325 t328 t331 t334 w _ ?side1 ?side2 A4.out).mono ?_
 (case side1 => exact mI93_1 HI315.out)
 (case side2 => exact mB93HI315 HB.out)
 rintro e w17 ⟨v326, v329, v332, rfl, ho0, ho1, ho2, hi, hb, hk⟩
 refine ⟨_, rfl, ?_⟩
 have n_ := az (kB hk BK311.out NB311_315.out) <| az (kB hk BK312.out NB312_315.out) <| And.intro (z0 (Kd.N_mono (Kd.N_told (Kd.N_told (Kd.N_told (Kd.N_oldK (Kd.N_mono (ok := fun k_ => (((w.heap.size ≤ k_)) ∧ (k_ ≠ gb311 ∧ (k_ ≠ gb312 ∧ (k_ ≠ g315 ∧ k_ ≠ gb324))))) (mN HO322.out) (fun k_ hk_ => (⟨hk_, hk_.2.2.2.1⟩ : _ ∧ k_ ≠ g315))) hk) (by first | exact Kd.R_base ho0 | exact Kd.R_base ho0)) (by first | exact Kd.R_base ho1 | exact Kd.R_base ho1)) (by first | exact Kd.R_base ho2 | exact Kd.R_base ho2)) (fun _ h_ => h_.1))) <| az (kB hk BK324.out NB324_315.out) <| And.intro (z0 (Kd.R_lower (Kd.R_newM (M := fun k_ => (w.heap.size ≤ k_)) ho0 (below_size (mB93HI315 HB.out)) (fun k_ h_ => h_)) (below_size (mB93HI315 HB.out)))) <| And.intro (z0 (Kd.R_lower (Kd.R_newM (M := fun k_ => (w.heap.size ≤ k_)) ho1 (below_size (mB93HI315 HB.out)) (fun k_ h_ => h_)) (below_size (mB93HI315 HB.out)))) <| And.intro (z0 (Kd.R_lower (Kd.R_newM (M := fun k_ => (w.heap.size ≤ k_)) ho2 (below_size (mB93HI315 HB.out)) (fun k_ h_ => h_)) (below_size (mB93HI315 HB.out)))) <| az (hb) <| z0 (hi)
 clear BK311 BK312 HO322 BK324 HB HI315
 obtain ⟨BK311, BK312, HO322, BK324, HO327, HO330, HO333, HB, HI315⟩ := n_
 (try clear hb)
 (try clear hb2)
 (try clear hk)
 (try clear hi)
 (try clear ho0)
 (try clear ho1)
 (try clear ho2)
 obtain ⟨Ao23, co23, eo23⟩ := Kd.R_slice HO327.out
 (first | subst eo23 | (injection eo23 with f1_ f2_ f3_; have f4_ := f1_.symm; have f5_ := f3_.symm; clear f1_ f2_ f3_; subst f4_; subst f5_))
 obtain ⟨Ao25, co25, eo25⟩ := Kd.R_slice HO330.out
 (first | subst eo25 | (injection eo25 with f1_ f2_ f3_; have f4_ := f1_.symm; have f5_ := f3_.symm; clear f1_ f2_ f3_; subst f4_; subst f5_))
 obtain ⟨Ao27, co27, eo27⟩ := Kd.R_slice HO333.out
 (first | subst eo27 | (injection eo27 with f1_ f2_ f3_; have f4_ := f1_.symm; have f5_ := f3_.symm; clear f1_ f2_ f3_; subst f4_; subst f5_))
 refine hK.out _ _ ⟨(blk_cell BK324.out 0).trans rfl, (blk_cell BK324.out 1).trans rfl, (blk_cell BK324.out 2).trans rfl, (blk_cell BK324.out 3).trans rfl, (blk_cell BK324.out 4).trans rfl⟩ (fun hHeld => ?_)
 clear hK K
 refine norm_ (a' := ?_) ?_ ?_
 rotate_left
 ·show Act.put _ (some 12) _ = _
  simp only [Act.put, List.setIfInBounds_toArray, List.set_cons_zero, List.set_cons_succ, i64_w, i32_w]
  rfl
 refine one_ (i := 3) (N := none) #[true, true, true, true, false] rfl rfl (by kernel_rfl) (by decide) (fun K hK => ?_)
 have hs18 : w17.cell? ⟨gb311, 0, none⟩ = some (.int .i64 0) := (blk_cell BK311.out 0).trans rfl
 have hfs18 := blk_frozen BK311.out 0
 have hns18_1 := NB312_311.out
 have hns18_2 := NB324_311.out
 have hms18_1 := NB311_312.out
 have hms18_2 := NB311_324.out
 have hs19 : w17.cell? ⟨gb311, 1, none⟩ = some (.int .i64 0) := (blk_cell BK311.out 1).trans rfl
 have hfs19 := blk_frozen BK311.out 1
 have hns19_1 := NB312_311.out
 have hns19_2 := NB324_311.out
 have hms19_1 := NB311_312.out
 have hms19_2 := NB311_324.out
 have hs20 : w17.cell? ⟨gb311, 2, none⟩ = some (.int .i64 0) := (blk_cell BK311.out 2).trans rfl
 have hfs20 := blk_frozen BK311.out 2
 have hns20_1 := NB312_311.out
 have hns20_2 := NB324_311.out
 have hms20_1 := NB311_312.out
 have hms20_2 := NB311_324.out
 have hs21 : w17.cell? ⟨gb311, 3, none⟩ = some (.int .i64 0) := (blk_cell BK311.out 3).trans rfl
 have hfs21 := blk_frozen BK311.out 3
 have hns21_1 := NB312_311.out
 have hns21_2 := NB324_311.out
 have hms21_1 := NB311_312.out
 have hms21_2 := NB311_324.out
 have hs22 : w17.cell? ⟨gb311, 4, none⟩ = some (.slice none 0 0) := (blk_cell BK311.out 4).trans rfl
 have hfs22 := blk_frozen BK311.out 4
 have hns22_1 := NB312_311.out
 have hns22_2 := NB324_311.out
 have hms22_1 := NB311_312.out
 have hms22_2 := NB311_324.out
 refine skip_ (w1 := ?_) (by rfl) rfl ?_ ?_
 rotate_left
 ·go_simp
  rfl
 refine hK.out _ _ ⟨((cell_far (p := ⟨gb311, _, none⟩) NB324_311.out _).trans (((cell_far (p := ⟨gb311, _, none⟩) NB324_311.out _).trans (((cell_far (p := ⟨gb311, _, none⟩) NB324_311.out _).trans (((cell_far (p := ⟨gb311, _, none⟩) NB324_311.out _).trans (((cell_far (p := ⟨gb311, _, none⟩) NB324_311.out _).trans (hHeld.1)))))))))), ((cell_far (p := ⟨gb311, _, none⟩) NB324_311.out _).trans (((cell_far (p := ⟨gb311, _, none⟩) NB324_311.out _).trans (((cell_far (p := ⟨gb311, _, none⟩) NB324_311.out _).trans (((cell_far (p := ⟨gb311, _, none⟩) NB324_311.out _).trans (((cell_far (p := ⟨gb311, _, none⟩) NB324_311.out _).trans (hHeld.2.1)))))))))), ((cell_far (p := ⟨gb311, _, none⟩) NB324_311.out _).trans (((cell_far (p := ⟨gb311, _, none⟩) NB324_311.out _).trans (((cell_far (p := ⟨gb311, _, none⟩) NB324_311.out _).trans (((cell_far (p := ⟨gb311, _, none⟩) NB324_311.out _).trans (((cell_far (p := ⟨gb311, _, none⟩) NB324_311.out _).trans (hHeld.2.2.1)))))))))), ((cell_far (p := ⟨gb311, _, none⟩) NB324_311.out _).trans (((cell_far (p := ⟨gb311, _, none⟩) NB324_311.out _).trans (((cell_far (p := ⟨gb311, _, none⟩) NB324_311.out _).trans (((cell_far (p := ⟨gb311, _, none⟩) NB324_311.out _).trans (((cell_far (p := ⟨gb311, _, none⟩) NB324_311.out _).trans (hHeld.2.2.2.1)))))))))), ((cell_far (p := ⟨gb311, _, none⟩) NB324_311.out _).trans (((cell_far (p := ⟨gb311, _, none⟩) NB324_311.out _).trans (((cell_far (p := ⟨gb311, _, none⟩) NB324_311.out _).trans (((cell_far (p := ⟨gb311, _, none⟩) NB324_311.out _).trans (((cell_far (p := ⟨gb311, _, none⟩) NB324_311.out _).trans (hHeld.2.2.2.2))))))))))⟩ (fun hHeld => ?_)
 clear hK K
 refine one_ (i := 4) (N := none) #[true, true, true, true, true] rfl rfl (by kernel_rfl) (by decide) (fun K hK => ?_)
 have hs24 : w17.cell? ⟨gb312, 0, none⟩ = some (.slice none 0 0) := (blk_cell BK312.out 0).trans rfl
 have hfs24 := blk_frozen BK312.out 0
 have hns24_0 := NB311_312.out
 have hns24_2 := NB324_312.out
 have hms24_0 := NB312_311.out
 have hms24_2 := NB312_324.out
 have hs26 : w17.cell? ⟨gb312, 1, none⟩ = some (.slice none 0 0) := (blk_cell BK312.out 1).trans rfl
 have hfs26 := blk_frozen BK312.out 1
 have hns26_0 := NB311_312.out
 have hns26_2 := NB324_312.out
 have hms26_0 := NB312_311.out
 have hms26_2 := NB312_324.out
 have hs28 : w17.cell? ⟨gb312, 2, none⟩ = some (.slice none 0 0) := (blk_cell BK312.out 2).trans rfl
 have hfs28 := blk_frozen BK312.out 2
 have hns28_0 := NB311_312.out
 have hns28_2 := NB324_312.out
 have hms28_0 := NB312_311.out
 have hms28_2 := NB312_324.out
 refine skip_ (w1 := ?_) (by rfl) rfl ?_ ?_
 rotate_left
 ·go_simp
  rfl
 refine hK.out _ _ ⟨((cell_far (p := ⟨gb312, _, none⟩) NB324_312.out _).trans (((cell_far (p := ⟨gb312, _, none⟩) NB324_312.out _).trans (((cell_far (p := ⟨gb312, _, none⟩) NB324_312.out _).trans (hHeld.1)))))), ((cell_far (p := ⟨gb312, _, none⟩) NB324_312.out _).trans (((cell_far (p := ⟨gb312, _, none⟩) NB324_312.out _).trans (((cell_far (p := ⟨gb312, _, none⟩) NB324_312.out _).trans (hHeld.2.1)))))), ((cell_far (p := ⟨gb312, _, none⟩) NB324_312.out _).trans (((cell_far (p := ⟨gb312, _, none⟩) NB324_312.out _).trans (((cell_far (p := ⟨gb312, _, none⟩) NB324_312.out _).trans (hHeld.2.2.1)))))), ((cell_far (p := ⟨gb312, _, none⟩) NB324_312.out _).trans (((cell_far (p := ⟨gb312, _, none⟩) NB324_312.out _).trans (((cell_far (p := ⟨gb312, _, none⟩) NB324_312.out _).trans (hHeld.2.2.2.1)))))), ((cell_far (p := ⟨gb312, _, none⟩) NB324_312.out _).trans (((cell_far (p := ⟨gb312, _, none⟩) NB324_312.out _).trans (((cell_far (p := ⟨gb312, _, none⟩) NB324_312.out _).trans (hHeld.2.2.2.2))))))⟩ (fun hHeld => ?_)
 clear hK K
 refine done_ (by kernel_rfl) ?_
 try go_wp2
 refine bodyPost_ret (results_cc rfl _ _ gb311 gb312 27 30 #[.int .i64 t316, .int .i64 t317, .int .i64 t318, .int .i64 t319, .slice Ao14 t320.length co14] #[.slice Ao23 t325.length co23, .slice Ao25 t328.length co25, .slice Ao27 t331.length co27] (0, 0) (0, 0) _ _ rfl (by (with_reducible repeat (first | refine blk_drewN ?_ _ | refine blk_drew ?_ | refine blk_alloc ?_ _)); refine blk_far ?_ NB311_312.out _; (with_reducible repeat (first | refine blk_drewN ?_ _ | refine blk_drew ?_ | refine blk_alloc ?_ _)); refine blk_far ?_ NB311_312.out _; (with_reducible repeat (first | refine blk_drewN ?_ _ | refine blk_drew ?_ | refine blk_alloc ?_ _)); refine blk_far ?_ NB311_312.out _; (with_reducible repeat (first | refine blk_drewN ?_ _ | refine blk_drew ?_ | refine blk_alloc ?_ _)); refine blk_put (cs := #[.int .i64 t316, .int .i64 t317, .int .i64 t318, .int .i64 t319, .slice none 0 0]) ?_ 4 _ rfl; (with_reducible repeat (first | refine blk_drewN ?_ _ | refine blk_drew ?_ | refine blk_alloc ?_ _)); refine blk_put (cs := #[.int .i64 t316, .int .i64 t317, .int .i64 t318, .int .i64 0, .slice none 0 0]) ?_ 3 _ rfl; (with_reducible repeat (first | refine blk_drewN ?_ _ | refine blk_drew ?_ | refine blk_alloc ?_ _)); refine blk_put (cs := #[.int .i64 t316, .int .i64 t317, .int .i64 0, .int .i64 0, .slice none 0 0]) ?_ 2 _ rfl; (with_reducible repeat (first | refine blk_drewN ?_ _ | refine blk_drew ?_ | refine blk_alloc ?_ _)); refine blk_put (cs := #[.int .i64 t316, .int .i64 0, .int .i64 0, .int .i64 0, .slice none 0 0]) ?_ 1 _ rfl; (with_reducible repeat (first | refine blk_drewN ?_ _ | refine blk_drew ?_ | refine blk_alloc ?_ _)); refine blk_put (cs := #[.int .i64 0, .int .i64 0, .int .i64 0, .int .i64 0, .slice none 0 0]) ?_ 0 _ rfl; (with_reducible repeat (first | refine blk_drewN ?_ _ | refine blk_drew ?_ | refine blk_alloc ?_ _)); exact BK311.out) Tryz.underlying27 rfl (by kernel_rfl) rfl (by (with_reducible repeat (first | refine blk_drewN ?_ _ | refine blk_drew ?_ | refine blk_alloc ?_ _)); refine blk_put (cs := #[.slice Ao23 t325.length co23, .slice Ao25 t328.length co25, .slice none 0 0]) ?_ 2 _ rfl; (with_reducible repeat (first | refine blk_drewN ?_ _ | refine blk_drew ?_ | refine blk_alloc ?_ _)); refine blk_put (cs := #[.slice Ao23 t325.length co23, .slice none 0 0, .slice none 0 0]) ?_ 1 _ rfl; (with_reducible repeat (first | refine blk_drewN ?_ _ | refine blk_drew ?_ | refine blk_alloc ?_ _)); refine blk_put (cs := #[.slice none 0 0, .slice none 0 0, .slice none 0 0]) ?_ 0 _ rfl; (with_reducible repeat (first | refine blk_drewN ?_ _ | refine blk_drew ?_ | refine blk_alloc ?_ _)); refine blk_far ?_ NB312_311.out _; (with_reducible repeat (first | refine blk_drewN ?_ _ | refine blk_drew ?_ | refine blk_alloc ?_ _)); refine blk_far ?_ NB312_311.out _; (with_reducible repeat (first | refine blk_drewN ?_ _ | refine blk_drew ?_ | refine blk_alloc ?_ _)); refine blk_far ?_ NB312_311.out _; (with_reducible repeat (first | refine blk_drewN ?_ _ | refine blk_drew ?_ | refine blk_alloc ?_ _)); refine blk_far ?_ NB312_311.out _; (with_reducible repeat (first | refine blk_drewN ?_ _ | refine blk_drew ?_ | refine blk_alloc ?_ _)); refine blk_far ?_ NB312_311.out _; (with_reducible repeat (first | refine blk_drewN ?_ _ | refine blk_drew ?_ | refine blk_alloc ?_ _)); exact BK312.out) Tryz.underlying30 rfl (by kernel_rfl)) rfl ?_
 exact ⟨_, _, _, _, rfx, by (with_reducible repeat (first | apply Kd.N_alloc | apply Kd.N_drewN | apply Kd.N_drew)); exact Kd.N_mono (Kd.N_far (p := ⟨gb312, 2, none⟩) (Kd.N_far (p := ⟨gb312, 1, none⟩) (Kd.N_far (p := ⟨gb312, 0, none⟩) (Kd.N_far (p := ⟨gb311, 4, none⟩) (Kd.N_far (p := ⟨gb311, 3, none⟩) (Kd.N_far (p := ⟨gb311, 2, none⟩) (Kd.N_far (p := ⟨gb311, 1, none⟩) (Kd.N_far (p := ⟨gb311, 0, none⟩) (Kd.N_mono (Kd.N_mono HO322.out (fun k_ hk => (⟨hk, hk.1.1.1.2.1⟩ : _ ∧ k_ ≠ gb311))) (fun k_ hk => (⟨hk, hk.1.1.1.1.2.2.1⟩ : _ ∧ k_ ≠ gb312))) (fun _ hk => hk.1.2) (.int .i64 t316)) (fun _ hk => hk.1.2) (.int .i64 t317)) (fun _ hk => hk.1.2) (.int .i64 t318)) (fun _ hk => hk.1.2) (.int .i64 t319)) (fun _ hk => hk.1.2) (.slice Ao14 t320.length co14)) (fun _ hk => hk.2) (.slice Ao23 t325.length co23)) (fun _ hk => hk.2) (.slice Ao25 t328.length co25)) (fun _ hk => hk.2) (.slice Ao27 t331.length co27)) (fun _ hk => ⟨hk.1.1.1.1.1.1, ⟨hk.1.1.1.1.2, ⟨hk.1.1.1.2, hk.1.1.2⟩⟩⟩), by (with_reducible repeat (first | apply Kd.R_alloc | apply Kd.R_drewN | apply Kd.R_drew)); exact Kd.R_mono (Kd.R_far (p := ⟨gb312, 2, none⟩) (Kd.R_far (p := ⟨gb312, 1, none⟩) (Kd.R_far (p := ⟨gb312, 0, none⟩) (Kd.R_far (p := ⟨gb311, 4, none⟩) (Kd.R_far (p := ⟨gb311, 3, none⟩) (Kd.R_far (p := ⟨gb311, 2, none⟩) (Kd.R_far (p := ⟨gb311, 1, none⟩) (Kd.R_far (p := ⟨gb311, 0, none⟩) (Kd.R_types (Kd.R_types HO327.out BK311.out (by decide)) BK312.out (by decide)) (fun _ hk => hk.1.2) (.int .i64 t316)) (fun _ hk => hk.1.2) (.int .i64 t317)) (fun _ hk => hk.1.2) (.int .i64 t318)) (fun _ hk => hk.1.2) (.int .i64 t319)) (fun _ hk => hk.1.2) (.slice Ao14 t320.length co14)) (fun _ hk => hk.2) (.slice Ao23 t325.length co23)) (fun _ hk => hk.2) (.slice Ao25 t328.length co25)) (fun _ hk => hk.2) (.slice Ao27 t331.length co27)) (fun _ hk => ⟨hk.1.1.1, ⟨hk.1.1.2.1, hk.1.1.2.2⟩⟩), by (with_reducible repeat (first | apply Kd.R_alloc | apply Kd.R_drewN | apply Kd.R_drew)); exact Kd.R_mono (Kd.R_far (p := ⟨gb312, 2, none⟩) (Kd.R_far (p := ⟨gb312, 1, none⟩) (Kd.R_far (p := ⟨gb312, 0, none⟩) (Kd.R_far (p := ⟨gb311, 4, none⟩) (Kd.R_far (p := ⟨gb311, 3, none⟩) (Kd.R_far (p := ⟨gb311, 2, none⟩) (Kd.R_far (p := ⟨gb311, 1, none⟩) (Kd.R_far (p := ⟨gb311, 0, none⟩) (Kd.R_types (Kd.R_types HO330.out BK311.out (by decide)) BK312.out (by decide)) (fun _ hk => hk.1.2) (.int .i64 t316)) (fun _ hk => hk.1.2) (.int .i64 t317)) (fun _ hk => hk.1.2) (.int .i64 t318)) (fun _ hk => hk.1.2) (.int .i64 t319)) (fun _ hk => hk.1.2) (.slice Ao14 t320.length co14)) (fun _ hk => hk.2) (.slice Ao23 t325.length co23)) (fun _ hk => hk.2) (.slice Ao25 t328.length co25)) (fun _ hk => hk.2) (.slice Ao27 t331.length co27)) (fun _ hk => ⟨hk.1.1.1, ⟨hk.1.1.2.1, hk.1.1.2.2⟩⟩), by (with_reducible repeat (first | apply Kd.R_alloc | apply Kd.R_drewN | apply Kd.R_drew)); exact Kd.R_mono (Kd.R_far (p := ⟨gb312, 2, none⟩) (Kd.R_far (p := ⟨gb312, 1, none⟩) (Kd.R_far (p := ⟨gb312, 0, none⟩) (Kd.R_far (p := ⟨gb311, 4, none⟩) (Kd.R_far (p := ⟨gb311, 3, none⟩) (Kd.R_far (p := ⟨gb311, 2, none⟩) (Kd.R_far (p := ⟨gb311, 1, none⟩) (Kd.R_far (p := ⟨gb311, 0, none⟩) (Kd.R_types (Kd.R_types HO333.out BK311.out (by decide)) BK312.out (by decide)) (fun _ hk => hk.1.2) (.int .i64 t316)) (fun _ hk => hk.1.2) (.int .i64 t317)) (fun _ hk => hk.1.2) (.int .i64 t318)) (fun _ hk => hk.1.2) (.int .i64 t319)) (fun _ hk => hk.1.2) (.slice Ao14 t320.length co14)) (fun _ hk => hk.2) (.slice Ao23 t325.length co23)) (fun _ hk => hk.2) (.slice Ao25 t328.length co25)) (fun _ hk => hk.2) (.slice Ao27 t331.length co27)) (fun _ hk => ⟨hk.1.1.1, ⟨hk.1.1.2.1, hk.1.1.2.2⟩⟩), mB93HI315 HB.out⟩

end Go.Proofs.YtendbgedpjcocaaGreatDoor.B
