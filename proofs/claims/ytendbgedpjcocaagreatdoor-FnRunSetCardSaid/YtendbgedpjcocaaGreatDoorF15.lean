-- printed by base.py (this claim's tool) over the kit's print
import Derived.Test.YtendbgedpjcocaaGreatDoorB0
import Derived.Test.YtendbgedpjcocaaGreatDoorSq
import Derived.Test.YtendbgedpjcocaaGreatDoorPkB
import Derived.Test.YtendbgedpjcocaaGreatDoorF34
namespace Go.Proofs.YtendbgedpjcocaaGreatDoor.B
open Go.RowKit Go.Proofs.YtendbgedpjcocaaGreatDoorW.PrintWords Go.Proofs.YtendbgedpjcocaaGreatDoorW.PrintLast Go.Proofs.YtendbgedpjcocaaGreatDoorW.PrintMore
attribute [local go_sem] max2_int min2_int max_two min_two max_three min_three max_four min_four   -- for this text's walks alone
set_option linter.unusedVariables false
set_option linter.unusedSimpArgs false

/-! ### spec_DrawMemGet: function 15 -/
def spec_DrawMemGet.f (k : Nat) (l0 : List Int) : Option (List Int × List Int × List Int × Int × Int) := (spec_l12Open.f l0).bind fun bt587 => ((spec_l2MemBent.f k bt587.1 bt587.2).bind fun bt590 => ((spec_l2AddrBent.f k bt587.1 bt590.2.2.2).bind fun bt601 => (some (bt590.1, bt590.2.1, bt590.2.2.1, bt601.1, bt601.2.1))))
set_option maxHeartbeats 8000000 in
set_option maxRecDepth 100000 in
theorem spec_DrawMemGet.calls (k : Nat) (A0 : Option Addr) (c0 : Nat) (l0 : List Int) (r1 : List Int) (r2 : List Int) (r3 : List Int) (r4 : Int) (r5 : Int) (w : World) (hr0 : Kd.C (Kd.int .u8) w A0 l0.length l0) (hc0 : l0.length ≤ c0) (h : spec_DrawMemGet.f k l0 = some (r1, r2, r3, r4, r5)) :
  Calls Tryz.prog 15 #[.slice A0 l0.length c0] w fun e w' => ∃ v0_ v1_ v2_ : Value, e = .returned (.tuple #[.agg #[v0_, v1_, v2_], .agg #[.int .i64 r4, .int .i64 r5]]) ∧ Kd.R (Kd.int .i64) 3 w' w.heap.size (fun k_ => nB k_ v1_ ∧ nB k_ v2_) v0_ r1 ∧ Kd.R (Kd.int .i64) 3 w' w.heap.size (fun k_ => nB k_ v0_ ∧ nB k_ v2_) v1_ r2 ∧ Kd.R (Kd.int .i64) 3 w' w.heap.size (fun k_ => nB k_ v0_ ∧ nB k_ v1_) v2_ r3 ∧ Below w.heap.size w w' := by
 have hu30 := Tryz.underlying30
 have hu24 := Tryz.underlying24
 have HR0 := z0 hr0
 have HC0 := z0 hc0
 clear hr0 hc0
 have HB := z0 (Below.refl w.heap.size w)
 have H : ((spec_l12Open.f l0).bind fun bt587 => ((spec_l2MemBent.f k bt587.1 bt587.2).bind fun bt590 => ((spec_l2AddrBent.f k bt587.1 bt590.2.2.2).bind fun bt601 => (some (bt590.1, bt590.2.1, bt590.2.2.1, bt601.1, bt601.2.1))))) = some (r1, r2, r3, r4, r5) := h
 clear h
 replace H := Option.bind_eq_some_iff.mp H
 obtain ⟨⟨t587, t588⟩, A20, H⟩ := H
 try dsimp only at H
 have A2 := z0 A20
 clear A20
 replace H := Option.bind_eq_some_iff.mp H
 obtain ⟨⟨t590, t593, t596, t599⟩, A30, H⟩ := H
 try dsimp only at H
 have A3 := z0 A30
 clear A30
 replace H := Option.bind_eq_some_iff.mp H
 obtain ⟨⟨t601, t602, t603⟩, A40, H⟩ := H
 try dsimp only at H
 have A4 := z0 A40
 clear A40
 simp only [Option.some.injEq, Prod.mk.injEq] at H
 obtain ⟨rfl, rfl, rfl, rfl, rfl⟩ := H
 go_enter Tryz.func15, Tryz.ntmps15
 try go_wp2_with (first | ((with_reducible refine gate_dst (N := 2) rfl ?_); refine box_event ?hg (N := 2) ?hd (cs := #[.slice none 0 0, .slice none 0 0, .slice none 0 0]) (t := 30) ?hr ?_; (case hd => rfl); (case hg => rfl); (case hr => first | (go_simp; done) | (go_simp; rfl)); intro gb585 hg w5 hbox hb; have n_ := az (below_step (mB HB.out) hb) <| az (hbox) <| az ((by rw [hg]; exact (below_size (mB HB.out)) : w.heap.size ≤ gb585)) <| z0 ((by rw [hg]; exact (below_size (mB HB.out)) : w.heap.size ≤ gb585)); clear HB; obtain ⟨HB, BK585, GW585, GE585⟩ := n_; clear hb hbox hg) | ((with_reducible refine gate_dst (N := 3) rfl ?_); refine box_event ?hg (N := 3) ?hd (cs := #[.int .i64 0, .int .i64 0]) (t := 24) ?hr ?_; (case hd => rfl); (case hg => rfl); (case hr => first | (go_simp; done) | (go_simp; rfl)); intro gb586 hg w6 hbox hb; have n_ := az (bB BK585.out hb) <| az (below_step (mB HB.out) hb) <| az (hbox) <| az ((by rw [hg]; exact (below_size (mB HB.out)) : w.heap.size ≤ gb586)) <| az ((by rw [hg]; exact (below_size (mB HB.out)) : w.heap.size ≤ gb586)) <| az ((nL hg BK585.out)) <| z0 ((nG hg BK585.out)); clear BK585 HB; obtain ⟨BK585, HB, BK586, GW586, GE586, NB585_586, NB586_585⟩ := n_; clear hb hbox hg) | ((with_reducible refine gate_callee (f := 32) rfl ?_); refine goesL_ (some 7) rfl rfl Tryz.func32 (by kernel_rfl) rfl #[.slice A0 l0.length c0] rfl argx ?_; (with_reducible refine (spec_l12Open.calls _ _ l0 t587 t588 w _ ?side1 ?side2 ?side3 A2.out).mono ?_); (case side1 => exact mB HB.out); (case side2 => exact HR0.out); (case side3 => exact HC0.out); rintro e w7 ⟨g589, rfl, hi, hb, hb2⟩; refine ⟨_, rfl, ?_⟩; have n_ := az (bB BK585.out hb2) <| az (bB BK586.out hb2) <| az (hb) <| az (hi) <| az (IsS93.ne_blk hi (bB BK585.out hb2) (by decide)) <| az (Ne.symm (IsS93.ne_blk hi (bB BK585.out hb2) (by decide))) <| az (IsS93.ne_blk hi (bB BK586.out hb2) (by decide)) <| z0 (Ne.symm (IsS93.ne_blk hi (bB BK586.out hb2) (by decide))); clear BK585 BK586 HB; obtain ⟨BK585, BK586, HB, HI589, NB589_585, NB585_589, NB589_586, NB586_589⟩ := n_; clear hb hb2 hi) | ((with_reducible refine gate_callee (f := 34) rfl ?_); refine goesL_ (some 9) rfl rfl Tryz.func34 (by kernel_rfl) rfl #[.pointer (some ⟨g589, 0, none⟩)] rfl argx ?_; (with_reducible refine (spec_l2MemBent.calls k g589 t587 t588 t590 t593 t596 t599 w _ ?side1 ?side2 A3.out).mono ?_); (case side1 => exact mI93_1 HI589.out); (case side2 => exact mB93HI589 HB.out); rintro e w8 ⟨v591, v594, v597, rfl, ho0, ho1, ho2, hi, hb, hk⟩; refine ⟨_, rfl, ?_⟩; have n_ := az (kB hk BK585.out NB585_589.out) <| az (kB hk BK586.out NB586_589.out) <| az (Kd.R_lower ho0 (below_size (mB93HI589 HB.out))) <| az (Kd.R_lower ho1 (below_size (mB93HI589 HB.out))) <| az (Kd.R_lower ho2 (below_size (mB93HI589 HB.out))) <| az (hb) <| z0 (hi); clear BK585 BK586 HB HI589; obtain ⟨BK585, BK586, HO592, HO595, HO598, HB, HI589⟩ := n_; clear hb hk hi ho0; (try clear ho1); (try clear ho2)) | ((with_reducible refine gate_dst (N := 5) rfl ?_); refine box_event ?hg (N := 5) ?hd (cs := #[.slice none 0 0, .slice none 0 0, .slice none 0 0]) (t := 30) ?hr ?_; (case hd => rfl); (case hg => rfl); (case hr => first | (go_simp; done) | (go_simp; rfl)); intro gb600 hg w9 hbox hb; have n_ := az (Kd.R_below (mR HO592.out) hb) <| az (Kd.R_below (mR HO595.out) hb) <| az (Kd.R_below (mR HO598.out) hb) <| az (bB BK585.out hb) <| az (bB BK586.out hb) <| az (IsS93.below (mI93_1 HI589.out) hb) <| az (below_step (mB93HI589 HB.out) hb) <| az (hbox) <| az ((by rw [hg]; exact (below_size (mB93HI589 HB.out)) : w.heap.size ≤ gb600)) <| az ((by rw [hg]; exact (below_size (mB93HI589 HB.out)) : w.heap.size ≤ gb600)) <| az ((nL hg BK585.out)) <| az ((nG hg BK585.out)) <| az ((nL hg BK586.out)) <| az ((nG hg BK586.out)) <| az ((by rw [hg]; exact Nat.ne_of_lt (IsS93.lt (show IsS93 w _ g589 t587 t599 from mI93_1 HI589.out)) : g589 ≠ gb600)) <| z0 ((by rw [hg]; exact Nat.ne_of_gt (IsS93.lt (show IsS93 w _ g589 t587 t599 from mI93_1 HI589.out)) : gb600 ≠ g589)); clear HO592 HO595 HO598 BK585 BK586 HI589 HB; obtain ⟨HO592, HO595, HO598, BK585, BK586, HI589, HB, BK600, GW600, GE600, NB585_600, NB600_585, NB586_600, NB600_586, NB589_600, NB600_589⟩ := n_; clear hb hbox hg; obtain ⟨Ao10, co10, eo10⟩ := Kd.R_slice HO592.out; subst eo10; have hnb11 := NB600_585.out; have hnc11 := NB585_600.out; have hnb12 := NB600_586.out; have hnc12 := NB586_600.out; have hnb13 := NB600_589.out; have hnc13 := NB589_600.out; obtain ⟨hcz14_0, hcz14_1, hcz14_2, hfz14_0, hfz14_1, hfz14_2⟩ := cel3 BK600.out; obtain ⟨Ao15, co15, eo15⟩ := Kd.R_slice HO595.out; subst eo15; obtain ⟨Ao16, co16, eo16⟩ := Kd.R_slice HO598.out; subst eo16))
 have n0_ : Aside0 (Kd.R (Kd.int .i64) 3 (((w9.setCell ⟨gb600, 0, none⟩ (.slice Ao10 t590.length co10)).setCell ⟨gb600, 1, none⟩ (.slice Ao15 t593.length co15)).setCell ⟨gb600, 2, none⟩ (.slice Ao16 t596.length co16)) w.heap.size (fun k_ => nB k_ (.slice Ao15 t593.length co15) ∧ nB k_ (.slice Ao16 t596.length co16)) (.slice Ao10 t590.length co10) t590) := ⟨by (with_reducible repeat (first | apply Kd.R_alloc | apply Kd.R_drewN | apply Kd.R_drew)); exact Kd.R_mono (Kd.R_far (p := ⟨gb600, 2, none⟩) (Kd.R_far (p := ⟨gb600, 1, none⟩) (Kd.R_far (p := ⟨gb600, 0, none⟩) (Kd.R_types HO592.out BK600.out (by decide)) (fun _ hk => hk.2) (.slice Ao10 t590.length co10)) (fun _ hk => hk.2) (.slice Ao15 t593.length co15)) (fun _ hk => hk.2) (.slice Ao16 t596.length co16)) (fun _ hk => ⟨hk.1.1, hk.1.2⟩)⟩
 have n1_ : Aside0 (Kd.R (Kd.int .i64) 3 (((w9.setCell ⟨gb600, 0, none⟩ (.slice Ao10 t590.length co10)).setCell ⟨gb600, 1, none⟩ (.slice Ao15 t593.length co15)).setCell ⟨gb600, 2, none⟩ (.slice Ao16 t596.length co16)) w.heap.size (fun k_ => nB k_ (.slice Ao10 t590.length co10) ∧ nB k_ (.slice Ao16 t596.length co16)) (.slice Ao15 t593.length co15) t593) := ⟨by (with_reducible repeat (first | apply Kd.R_alloc | apply Kd.R_drewN | apply Kd.R_drew)); exact Kd.R_mono (Kd.R_far (p := ⟨gb600, 2, none⟩) (Kd.R_far (p := ⟨gb600, 1, none⟩) (Kd.R_far (p := ⟨gb600, 0, none⟩) (Kd.R_types HO595.out BK600.out (by decide)) (fun _ hk => hk.2) (.slice Ao10 t590.length co10)) (fun _ hk => hk.2) (.slice Ao15 t593.length co15)) (fun _ hk => hk.2) (.slice Ao16 t596.length co16)) (fun _ hk => ⟨hk.1.1, hk.1.2⟩)⟩
 have n2_ : Aside0 (Kd.R (Kd.int .i64) 3 (((w9.setCell ⟨gb600, 0, none⟩ (.slice Ao10 t590.length co10)).setCell ⟨gb600, 1, none⟩ (.slice Ao15 t593.length co15)).setCell ⟨gb600, 2, none⟩ (.slice Ao16 t596.length co16)) w.heap.size (fun k_ => nB k_ (.slice Ao10 t590.length co10) ∧ nB k_ (.slice Ao15 t593.length co15)) (.slice Ao16 t596.length co16) t596) := ⟨by (with_reducible repeat (first | apply Kd.R_alloc | apply Kd.R_drewN | apply Kd.R_drew)); exact Kd.R_mono (Kd.R_far (p := ⟨gb600, 2, none⟩) (Kd.R_far (p := ⟨gb600, 1, none⟩) (Kd.R_far (p := ⟨gb600, 0, none⟩) (Kd.R_types HO598.out BK600.out (by decide)) (fun _ hk => hk.2) (.slice Ao10 t590.length co10)) (fun _ hk => hk.2) (.slice Ao15 t593.length co15)) (fun _ hk => hk.2) (.slice Ao16 t596.length co16)) (fun _ hk => ⟨hk.1.1, hk.1.2⟩)⟩
 have n3_ : Aside0 ((((w9.setCell ⟨gb600, 0, none⟩ (.slice Ao10 t590.length co10)).setCell ⟨gb600, 1, none⟩ (.slice Ao15 t593.length co15)).setCell ⟨gb600, 2, none⟩ (.slice Ao16 t596.length co16)).heap[gb585]? = some (.cells #[.slice none 0 0, .slice none 0 0, .slice none 0 0] 30 (0, 0))) := ⟨mF BK585.out⟩
 have n4_ : Aside0 ((((w9.setCell ⟨gb600, 0, none⟩ (.slice Ao10 t590.length co10)).setCell ⟨gb600, 1, none⟩ (.slice Ao15 t593.length co15)).setCell ⟨gb600, 2, none⟩ (.slice Ao16 t596.length co16)).heap[gb586]? = some (.cells #[.int .i64 0, .int .i64 0] 24 (0, 0))) := ⟨mF BK586.out⟩
 have n5_ : Aside0 ((((w9.setCell ⟨gb600, 0, none⟩ (.slice Ao10 t590.length co10)).setCell ⟨gb600, 1, none⟩ (.slice Ao15 t593.length co15)).setCell ⟨gb600, 2, none⟩ (.slice Ao16 t596.length co16)).heap[gb600]? = some (.cells #[.slice Ao10 t590.length co10, .slice Ao15 t593.length co15, .slice Ao16 t596.length co16] 30 (0, 0))) := ⟨pF BK600.out⟩
 have n6_ : Aside0 (IsS93 w (((w9.setCell ⟨gb600, 0, none⟩ (.slice Ao10 t590.length co10)).setCell ⟨gb600, 1, none⟩ (.slice Ao15 t593.length co15)).setCell ⟨gb600, 2, none⟩ (.slice Ao16 t596.length co16)) g589 t587 t599) := ⟨mI93_1 HI589.out⟩
 have n7_ : Aside0 (Below w.heap.size w (((w9.setCell ⟨gb600, 0, none⟩ (.slice Ao10 t590.length co10)).setCell ⟨gb600, 1, none⟩ (.slice Ao15 t593.length co15)).setCell ⟨gb600, 2, none⟩ (.slice Ao16 t596.length co16))) := ⟨mB93HI589 HB.out⟩
 (try clear HO592)
 (try clear HO595)
 (try clear HO598)
 (try clear BK585)
 (try clear BK586)
 (try clear BK600)
 (try clear HI589)
 (try clear HB)
 generalize (((w9.setCell ⟨gb600, 0, none⟩ (.slice Ao10 t590.length co10)).setCell ⟨gb600, 1, none⟩ (.slice Ao15 t593.length co15)).setCell ⟨gb600, 2, none⟩ (.slice Ao16 t596.length co16)) = w17 at n0_ n1_ n2_ n3_ n4_ n5_ n6_ n7_ ⊢
 have HO592 := n0_
 have HO595 := n1_
 have HO598 := n2_
 have BK585 := n3_
 have BK586 := n4_
 have BK600 := n5_
 have HI589 := n6_
 have HB := n7_
 clear n0_ n1_ n2_ n3_ n4_ n5_ n6_ n7_
 have n_ := az (Kd.R_drew HO592.out) <| az (Kd.R_drew HO595.out) <| az (Kd.R_drew HO598.out) <| az (blk_drew BK585.out) <| az (blk_drew BK586.out) <| az (blk_drew BK600.out) <| az (IsS93.drew HI589.out) <| z0 (below_drew1 HB.out)
 clear HO592 HO595 HO598 BK585 BK586 BK600 HI589 HB
 obtain ⟨HO592, HO595, HO598, BK585, BK586, BK600, HI589, HB⟩ := n_
 refine start_ (n := 5) (S := fun w' => w'.cell? ⟨gb600, 0, none⟩ = some (.slice Ao10 t590.length co10) ∧ w'.cell? ⟨gb600, 1, none⟩ = some (.slice Ao15 t593.length co15) ∧ w'.cell? ⟨gb600, 2, none⟩ = some (.slice Ao16 t596.length co16)) (ds := []) #[false, false, false, false, false] (by kernel_rfl) rfl rfl ⟨(blk_cell BK600.out 0).trans rfl, (blk_cell BK600.out 1).trans rfl, (blk_cell BK600.out 2).trans rfl⟩ (fun hHeld => ?_)
 generalize w17.drew = w18 at HO592 HO595 HO598 BK585 BK586 BK600 HI589 HB hHeld ⊢
 refine pure_ (i := 1) (N := some 11) (v := ?_) (a' := ?_) #[false, true, false, false, false] rfl rfl (by kernel_rfl) (fun _ _ _ h => h) (Or.inl ⟨by rfl, ?_⟩) ?_ ?_
 rotate_left
 ·intro w'
  go_simp
  with_reducible rfl
 rotate_left
 ·simp only [Act.put, List.setIfInBounds_toArray, List.set_cons_zero, List.set_cons_succ, i64_w, i32_w]
  rfl
 refine take_ (i := 0) (N := some 10) (v := ?_) (a' := ?_) #[true, true, false, false, false] rfl rfl (by kernel_rfl) (fun _ _ _ h => h) (Or.inl ⟨by rfl, ?_⟩) hHeld ?_ ?_
 rotate_left
 ·rintro w' ⟨s0, s1, s2⟩
  go_simp
  with_reducible rfl
 rotate_left
 ·simp only [Act.put, List.setIfInBounds_toArray, List.set_cons_zero, List.set_cons_succ, i64_w, i32_w]
  rfl
 refine one_ (i := 2) (N := some 12) #[true, true, true, false, false] rfl rfl (by kernel_rfl) (by decide) (fun K hK => ?_)
 refine goes_ Tryz.func42 (by kernel_rfl) rfl #[.pointer (some ⟨g589, 0, none⟩)] (by rfl) rfl rfl argx ?_
 with_reducible refine (spec_l2AddrBent.calls k g589 t587 t599 t601 t602 t603 w _ ?side1 ?side2 A4.out).mono ?_
 (case side1 => exact mI93_1 HI589.out)
 (case side2 => exact mB93HI589 HB.out)
 rintro e w19 ⟨rfl, hi, hb, hk⟩
 refine ⟨_, rfl, ?_⟩
 have n_ := az (kB hk BK585.out NB585_589.out) <| az (kB hk BK586.out NB586_589.out) <| And.intro (z0 (Kd.R_mono (Kd.R_keep (IsS93.apart (show IsS93 w _ g589 t587 t599 from mI93_1 HI589.out) (mR HO592.out) (by decide)) hk (fun _ h => h.2)) (fun _ h => h.1))) <| And.intro (z0 (Kd.R_mono (Kd.R_keep (IsS93.apart (show IsS93 w _ g589 t587 t599 from mI93_1 HI589.out) (mR HO595.out) (by decide)) hk (fun _ h => h.2)) (fun _ h => h.1))) <| And.intro (z0 (Kd.R_mono (Kd.R_keep (IsS93.apart (show IsS93 w _ g589 t587 t599 from mI93_1 HI589.out) (mR HO598.out) (by decide)) hk (fun _ h => h.2)) (fun _ h => h.1))) <| az (kB hk BK600.out NB600_589.out) <| az (hb) <| z0 (hi)
 clear BK585 BK586 HO592 HO595 HO598 BK600 HB HI589
 obtain ⟨BK585, BK586, HO592, HO595, HO598, BK600, HB, HI589⟩ := n_
 (try clear hb)
 (try clear hb2)
 (try clear hk)
 (try clear hi)
 refine hK.out _ _ ⟨(blk_cell BK600.out 0).trans rfl, (blk_cell BK600.out 1).trans rfl, (blk_cell BK600.out 2).trans rfl⟩ (fun hHeld => ?_)
 clear hK K
 refine norm_ (a' := ?_) ?_ ?_
 rotate_left
 ·show Act.put _ (some 12) _ = _
  simp only [Act.put, List.setIfInBounds_toArray, List.set_cons_zero, List.set_cons_succ, i64_w, i32_w]
  rfl
 refine one_ (i := 3) (N := none) #[true, true, true, true, false] rfl rfl (by kernel_rfl) (by decide) (fun K hK => ?_)
 have hs20 : w19.cell? ⟨gb585, 0, none⟩ = some (.slice none 0 0) := (blk_cell BK585.out 0).trans rfl
 have hfs20 := blk_frozen BK585.out 0
 have hns20_1 := NB586_585.out
 have hns20_2 := NB600_585.out
 have hms20_1 := NB585_586.out
 have hms20_2 := NB585_600.out
 have hs21 : w19.cell? ⟨gb585, 1, none⟩ = some (.slice none 0 0) := (blk_cell BK585.out 1).trans rfl
 have hfs21 := blk_frozen BK585.out 1
 have hns21_1 := NB586_585.out
 have hns21_2 := NB600_585.out
 have hms21_1 := NB585_586.out
 have hms21_2 := NB585_600.out
 have hs22 : w19.cell? ⟨gb585, 2, none⟩ = some (.slice none 0 0) := (blk_cell BK585.out 2).trans rfl
 have hfs22 := blk_frozen BK585.out 2
 have hns22_1 := NB586_585.out
 have hns22_2 := NB600_585.out
 have hms22_1 := NB585_586.out
 have hms22_2 := NB585_600.out
 refine skip_ (w1 := ?_) (by rfl) rfl ?_ ?_
 rotate_left
 ·go_simp
  rfl
 refine hK.out _ _ ⟨((cell_far (p := ⟨gb585, _, none⟩) NB600_585.out _).trans (((cell_far (p := ⟨gb585, _, none⟩) NB600_585.out _).trans (((cell_far (p := ⟨gb585, _, none⟩) NB600_585.out _).trans (hHeld.1)))))), ((cell_far (p := ⟨gb585, _, none⟩) NB600_585.out _).trans (((cell_far (p := ⟨gb585, _, none⟩) NB600_585.out _).trans (((cell_far (p := ⟨gb585, _, none⟩) NB600_585.out _).trans (hHeld.2.1)))))), ((cell_far (p := ⟨gb585, _, none⟩) NB600_585.out _).trans (((cell_far (p := ⟨gb585, _, none⟩) NB600_585.out _).trans (((cell_far (p := ⟨gb585, _, none⟩) NB600_585.out _).trans (hHeld.2.2))))))⟩ (fun hHeld => ?_)
 clear hK K
 refine one_ (i := 4) (N := none) #[true, true, true, true, true] rfl rfl (by kernel_rfl) (by decide) (fun K hK => ?_)
 have hs23 : w19.cell? ⟨gb586, 0, none⟩ = some (.int .i64 0) := (blk_cell BK586.out 0).trans rfl
 have hfs23 := blk_frozen BK586.out 0
 have hns23_0 := NB585_586.out
 have hns23_2 := NB600_586.out
 have hms23_0 := NB586_585.out
 have hms23_2 := NB586_600.out
 have hs24 : w19.cell? ⟨gb586, 1, none⟩ = some (.int .i64 0) := (blk_cell BK586.out 1).trans rfl
 have hfs24 := blk_frozen BK586.out 1
 have hns24_0 := NB585_586.out
 have hns24_2 := NB600_586.out
 have hms24_0 := NB586_585.out
 have hms24_2 := NB586_600.out
 refine skip_ (w1 := ?_) (by rfl) rfl ?_ ?_
 rotate_left
 ·go_simp
  rfl
 refine hK.out _ _ ⟨((cell_far (p := ⟨gb586, _, none⟩) NB600_586.out _).trans (((cell_far (p := ⟨gb586, _, none⟩) NB600_586.out _).trans (hHeld.1)))), ((cell_far (p := ⟨gb586, _, none⟩) NB600_586.out _).trans (((cell_far (p := ⟨gb586, _, none⟩) NB600_586.out _).trans (hHeld.2.1)))), ((cell_far (p := ⟨gb586, _, none⟩) NB600_586.out _).trans (((cell_far (p := ⟨gb586, _, none⟩) NB600_586.out _).trans (hHeld.2.2))))⟩ (fun hHeld => ?_)
 clear hK K
 refine done_ (by kernel_rfl) ?_
 try go_wp2
 refine bodyPost_ret (results_cc rfl _ _ gb585 gb586 30 24 #[.slice Ao10 t590.length co10, .slice Ao15 t593.length co15, .slice Ao16 t596.length co16] #[.int .i64 t601, .int .i64 t602] (0, 0) (0, 0) _ _ rfl (by (with_reducible repeat (first | refine blk_drewN ?_ _ | refine blk_drew ?_ | refine blk_alloc ?_ _)); refine blk_far ?_ NB585_586.out _; (with_reducible repeat (first | refine blk_drewN ?_ _ | refine blk_drew ?_ | refine blk_alloc ?_ _)); refine blk_far ?_ NB585_586.out _; (with_reducible repeat (first | refine blk_drewN ?_ _ | refine blk_drew ?_ | refine blk_alloc ?_ _)); refine blk_put (cs := #[.slice Ao10 t590.length co10, .slice Ao15 t593.length co15, .slice none 0 0]) ?_ 2 _ rfl; (with_reducible repeat (first | refine blk_drewN ?_ _ | refine blk_drew ?_ | refine blk_alloc ?_ _)); refine blk_put (cs := #[.slice Ao10 t590.length co10, .slice none 0 0, .slice none 0 0]) ?_ 1 _ rfl; (with_reducible repeat (first | refine blk_drewN ?_ _ | refine blk_drew ?_ | refine blk_alloc ?_ _)); refine blk_put (cs := #[.slice none 0 0, .slice none 0 0, .slice none 0 0]) ?_ 0 _ rfl; (with_reducible repeat (first | refine blk_drewN ?_ _ | refine blk_drew ?_ | refine blk_alloc ?_ _)); exact BK585.out) Tryz.underlying30 rfl (by kernel_rfl) rfl (by (with_reducible repeat (first | refine blk_drewN ?_ _ | refine blk_drew ?_ | refine blk_alloc ?_ _)); refine blk_put (cs := #[.int .i64 t601, .int .i64 0]) ?_ 1 _ rfl; (with_reducible repeat (first | refine blk_drewN ?_ _ | refine blk_drew ?_ | refine blk_alloc ?_ _)); refine blk_put (cs := #[.int .i64 0, .int .i64 0]) ?_ 0 _ rfl; (with_reducible repeat (first | refine blk_drewN ?_ _ | refine blk_drew ?_ | refine blk_alloc ?_ _)); refine blk_far ?_ NB586_585.out _; (with_reducible repeat (first | refine blk_drewN ?_ _ | refine blk_drew ?_ | refine blk_alloc ?_ _)); refine blk_far ?_ NB586_585.out _; (with_reducible repeat (first | refine blk_drewN ?_ _ | refine blk_drew ?_ | refine blk_alloc ?_ _)); refine blk_far ?_ NB586_585.out _; (with_reducible repeat (first | refine blk_drewN ?_ _ | refine blk_drew ?_ | refine blk_alloc ?_ _)); exact BK586.out) Tryz.underlying24 rfl (by kernel_rfl)) rfl ?_
 exact ⟨_, _, _, rfx, by (with_reducible repeat (first | apply Kd.R_alloc | apply Kd.R_drewN | apply Kd.R_drew)); exact Kd.R_mono (Kd.R_far (p := ⟨gb586, 1, none⟩) (Kd.R_far (p := ⟨gb586, 0, none⟩) (Kd.R_far (p := ⟨gb585, 2, none⟩) (Kd.R_far (p := ⟨gb585, 1, none⟩) (Kd.R_far (p := ⟨gb585, 0, none⟩) (Kd.R_types (Kd.R_types HO592.out BK585.out (by decide)) BK586.out (by decide)) (fun _ hk => hk.1.2) (.slice Ao10 t590.length co10)) (fun _ hk => hk.1.2) (.slice Ao15 t593.length co15)) (fun _ hk => hk.1.2) (.slice Ao16 t596.length co16)) (fun _ hk => hk.2) (.int .i64 t601)) (fun _ hk => hk.2) (.int .i64 t602)) (fun _ hk => ⟨hk.1.1.1, hk.1.1.2⟩), by (with_reducible repeat (first | apply Kd.R_alloc | apply Kd.R_drewN | apply Kd.R_drew)); exact Kd.R_mono (Kd.R_far (p := ⟨gb586, 1, none⟩) (Kd.R_far (p := ⟨gb586, 0, none⟩) (Kd.R_far (p := ⟨gb585, 2, none⟩) (Kd.R_far (p := ⟨gb585, 1, none⟩) (Kd.R_far (p := ⟨gb585, 0, none⟩) (Kd.R_types (Kd.R_types HO595.out BK585.out (by decide)) BK586.out (by decide)) (fun _ hk => hk.1.2) (.slice Ao10 t590.length co10)) (fun _ hk => hk.1.2) (.slice Ao15 t593.length co15)) (fun _ hk => hk.1.2) (.slice Ao16 t596.length co16)) (fun _ hk => hk.2) (.int .i64 t601)) (fun _ hk => hk.2) (.int .i64 t602)) (fun _ hk => ⟨hk.1.1.1, hk.1.1.2⟩), by (with_reducible repeat (first | apply Kd.R_alloc | apply Kd.R_drewN | apply Kd.R_drew)); exact Kd.R_mono (Kd.R_far (p := ⟨gb586, 1, none⟩) (Kd.R_far (p := ⟨gb586, 0, none⟩) (Kd.R_far (p := ⟨gb585, 2, none⟩) (Kd.R_far (p := ⟨gb585, 1, none⟩) (Kd.R_far (p := ⟨gb585, 0, none⟩) (Kd.R_types (Kd.R_types HO598.out BK585.out (by decide)) BK586.out (by decide)) (fun _ hk => hk.1.2) (.slice Ao10 t590.length co10)) (fun _ hk => hk.1.2) (.slice Ao15 t593.length co15)) (fun _ hk => hk.1.2) (.slice Ao16 t596.length co16)) (fun _ hk => hk.2) (.int .i64 t601)) (fun _ hk => hk.2) (.int .i64 t602)) (fun _ hk => ⟨hk.1.1.1, hk.1.1.2⟩), mB93HI589 HB.out⟩

end Go.Proofs.YtendbgedpjcocaaGreatDoor.B
