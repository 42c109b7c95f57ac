-- printed by base.py (this claim's tool) over the kit's print
import Derived.Test.YtendbgedpjcocaaGreatDoorB0
import Derived.Test.YtendbgedpjcocaaGreatDoorSq
import Derived.Test.YtendbgedpjcocaaGreatDoorPkB
import Derived.Test.YtendbgedpjcocaaGreatDoorF63
namespace Go.Proofs.YtendbgedpjcocaaGreatDoor.B
open Go.RowKit Go.Proofs.YtendbgedpjcocaaGreatDoorW.PrintWords Go.Proofs.YtendbgedpjcocaaGreatDoorW.PrintLast Go.Proofs.YtendbgedpjcocaaGreatDoorW.PrintMore
attribute [local go_sem] max2_int min2_int max_two min_two max_three min_three max_four min_four   -- for this text's walks alone
set_option linter.unusedVariables false
set_option linter.unusedSimpArgs false

theorem ownLen_ {x n m c : Nat} {A : Option Addr} (h : some x ≠ (Value.slice A n c).ownBlock) : some x ≠ (Value.slice A m c).ownBlock := by cases A <;> exact h
/-! ### spec_l2MemBent: function 34 -/
def spec_l2MemBent.f (k : Nat) (s0_0 : List Int) (s0_1 : Int) : Option (List Int × List Int × List Int × Int) := (spec_l2Mem.f k s0_0 s0_1).bind fun bt291 => ((spec_l12Rd_pick.f k s0_0 bt291.2.2.2 30).bind fun bt302 => (if bt302.1 = 0 then (if 2 ≤ (bt291.1.length : Int) then (some ((bt291.1.take (2 : Int).toNat), bt291.2.1, bt291.2.2.1, bt302.2)) else (none)) else (if bt302.1 = 1 then (if 0 < (bt291.2.2.1.length : Int) then (some (bt291.1, bt291.2.1, (bt291.2.2.1.set (0 : Int).toNat 1000001), bt302.2)) else (none)) else (if bt302.1 = 2 then (if bt291.2.1.length < 17592186044416 then (some (bt291.1, (bt291.2.1 ++ [0]), bt291.2.2.1, bt302.2)) else (none)) else (some (bt291.1, bt291.2.1, bt291.2.2.1, bt302.2))))))
set_option maxHeartbeats 8000000 in
set_option maxRecDepth 100000 in
theorem spec_l2MemBent.calls (k : Nat) (g : Nat) (s0_0 : List Int) (s0_1 : Int) (r1 : List Int) (r2 : List Int) (r3 : List Int) (r4 : Int) (w0 w : World) (hI : IsS93 w0 w g s0_0 s0_1) (hB : Below w0.heap.size w0 w) (h : spec_l2MemBent.f k s0_0 s0_1 = some (r1, r2, r3, r4)) :
  Calls Tryz.prog 34 #[.pointer (some ⟨g, 0, none⟩)] w fun e w' => ∃ v0_ v1_ v2_ : Value, e = .returned (.agg #[v0_, v1_, v2_]) ∧ Kd.R (Kd.int .i64) 3 w' w.heap.size (fun k_ => nB k_ v1_ ∧ nB k_ v2_) v0_ r1 ∧ Kd.R (Kd.int .i64) 3 w' w.heap.size (fun k_ => nB k_ v0_ ∧ nB k_ v2_) v1_ r2 ∧ Kd.R (Kd.int .i64) 3 w' w.heap.size (fun k_ => nB k_ v0_ ∧ nB k_ v1_) v2_ r3 ∧ IsS93 w0 w' g s0_0 r4 ∧ Below w0.heap.size w0 w' ∧ KeepBut w w' g none := by
 have hu30 := Tryz.underlying30
 have HI0 := z0 hI
 have HK := z0 (KeepBut.refl w g none)
 have HL := z0 hB.size
 clear hI
 have HW0 := z0 hB.size
 have HB := z0 hB
 clear hB
 have H : ((spec_l2Mem.f k s0_0 s0_1).bind fun bt291 => ((spec_l12Rd_pick.f k s0_0 bt291.2.2.2 30).bind fun bt302 => (if bt302.1 = 0 then (if 2 ≤ (bt291.1.length : Int) then (some ((bt291.1.take (2 : Int).toNat), bt291.2.1, bt291.2.2.1, bt302.2)) else (none)) else (if bt302.1 = 1 then (if 0 < (bt291.2.2.1.length : Int) then (some (bt291.1, bt291.2.1, (bt291.2.2.1.set (0 : Int).toNat 1000001), bt302.2)) else (none)) else (if bt302.1 = 2 then (if bt291.2.1.length < 17592186044416 then (some (bt291.1, (bt291.2.1 ++ [0]), bt291.2.2.1, bt302.2)) else (none)) else (some (bt291.1, bt291.2.1, bt291.2.2.1, bt302.2))))))) = some (r1, r2, r3, r4) := h
 clear h
 replace H := Option.bind_eq_some_iff.mp H
 obtain ⟨⟨t291, t294, t297, t300⟩, A20, H⟩ := H
 try dsimp only at H
 have A2 := z0 A20
 clear A20
 replace H := Option.bind_eq_some_iff.mp H
 obtain ⟨⟨t302, t303⟩, A30, H⟩ := H
 try dsimp only at H
 have A3 := z0 A30
 clear A30
 have HF4 := z0 H
 clear H
 go_enter Tryz.func34, Tryz.ntmps34
 go_upto_if 8 with (first | ((with_reducible refine gate_dst (N := 2) rfl ?_); refine box_event ?hg (N := 2) ?hd (cs := #[.slice none 0 0, .slice none 0 0, .slice none 0 0]) (t := 30) ?hr ?_; (case hd => rfl); (case hg => rfl); (case hr => first | (go_simp; done) | (go_simp; rfl)); intro gb290 hg w5 hbox hb; have n_ := az (IsS93.below (mI93_1 HI0.out) hb) <| az (KeepBut.trans (mKp HK.out) (KeepBut.of_below hb g none) (.inl rfl)) <| az (below_step (mB93HI0 HB.out) hb) <| az (hbox) <| az ((gW hg HK.out)) <| az ((Nat.le_trans HW0.out (gW hg HK.out) : w0.heap.size ≤ gb290)) <| az ((by rw [hg]; exact Nat.ne_of_lt (IsS93.lt (show IsS93 w0 _ g s0_0 s0_1 from mI93_1 HI0.out)) : g ≠ gb290)) <| z0 ((by rw [hg]; exact Nat.ne_of_gt (IsS93.lt (show IsS93 w0 _ g s0_0 s0_1 from mI93_1 HI0.out)) : gb290 ≠ g)); clear HI0 HK HB; obtain ⟨HI0, HK, HB, BK290, GW290, GE290, NB0_290, NB290_0⟩ := n_; clear hb hbox hg) | ((with_reducible refine gate_callee (f := 63) rfl ?_); refine goesL_ (some 5) rfl rfl Tryz.func63 (by kernel_rfl) rfl #[.pointer (some ⟨g, 0, none⟩)] rfl argx ?_; (with_reducible refine (spec_l2Mem.calls k g s0_0 s0_1 t291 t294 t297 t300 w0 _ ?side1 ?side2 A2.out).mono ?_); (case side1 => exact mI93_1 HI0.out); (case side2 => exact mB93HI0 HB.out); rintro e w6 ⟨v292, v295, v298, rfl, ho0, ho1, ho2, hi, hb, hk⟩; refine ⟨_, rfl, ?_⟩; have n_ := az (kB hk BK290.out NB290_0.out) <| az (Kd.R_lower ho0 (kS HK.out)) <| az (Kd.R_lower ho1 (kS HK.out)) <| az (Kd.R_lower ho2 (kS HK.out)) <| az (KeepBut.trans (mKp HK.out) hk (.inl rfl)) <| az (hb) <| z0 (hi); clear BK290 HK HB HI0; obtain ⟨BK290, HO293, HO296, HO299, HK, HB, HI0⟩ := n_; clear hb hk hi ho0; (try clear ho1); (try clear ho2)) | ((with_reducible refine gate_dst (N := 3) rfl ?_); refine box_event ?hg (N := 3) ?hd (cs := #[.slice none 0 0, .slice none 0 0, .slice none 0 0]) (t := 30) ?hr ?_; (case hd => rfl); (case hg => rfl); (case hr => first | (go_simp; done) | (go_simp; rfl)); intro gb301 hg w7 hbox hb; have n_ := az (Kd.R_below (mR HO293.out) hb) <| az (Kd.R_below (mR HO296.out) hb) <| az (Kd.R_below (mR HO299.out) hb) <| az (IsS93.below (mI93_1 HI0.out) hb) <| az (bB BK290.out hb) <| az (KeepBut.trans (mKp HK.out) (KeepBut.of_below hb g none) (.inl rfl)) <| az (below_step (mB93HI0 HB.out) hb) <| az (hbox) <| az ((gW hg HK.out)) <| az ((Nat.le_trans HW0.out (gW hg HK.out) : w0.heap.size ≤ gb301)) <| az ((nL hg BK290.out)) <| az ((nG hg BK290.out)) <| az ((by rw [hg]; exact Nat.ne_of_lt (IsS93.lt (show IsS93 w0 _ g s0_0 t300 from mI93_1 HI0.out)) : g ≠ gb301)) <| z0 ((by rw [hg]; exact Nat.ne_of_gt (IsS93.lt (show IsS93 w0 _ g s0_0 t300 from mI93_1 HI0.out)) : gb301 ≠ g)); clear HO293 HO296 HO299 HI0 BK290 HK HB; obtain ⟨HO293, HO296, HO299, HI0, BK290, HK, HB, BK301, GW301, GE301, NB290_301, NB301_290, NB0_301, NB301_0⟩ := n_; clear hb hbox hg; obtain ⟨Ao8, co8, eo8⟩ := Kd.R_slice HO293.out; subst eo8; have hnb9 := NB301_290.out; have hnc9 := NB290_301.out; have hnb10 := NB301_0.out; have hnc10 := NB0_301.out; obtain ⟨hcz11_0, hcz11_1, hcz11_2, hfz11_0, hfz11_1, hfz11_2⟩ := cel3 BK301.out; obtain ⟨Ao12, co12, eo12⟩ := Kd.R_slice HO296.out; subst eo12; obtain ⟨Ao13, co13, eo13⟩ := Kd.R_slice HO299.out; subst eo13) | ((with_reducible refine gate_callee (f := 61) rfl ?_); refine goesL_ (some 7) rfl rfl Tryz.func61 (by kernel_rfl) rfl #[.pointer (some ⟨g, 0, none⟩), .int .i64 30] rfl argx ?_; (with_reducible refine (spec_l12Rd_pick.calls k g s0_0 t300 30 t302 t303 w0 _ ?side1 ?side2 A3.out).mono ?_); (case side1 => exact mI93_1 HI0.out); (case side2 => exact mB93HI0 HB.out); rintro e w14 ⟨rfl, hi, hb, hk⟩; refine ⟨_, rfl, ?_⟩; have n_ := az (KeepBut.blk hk (g' := gb290) (o := .cells #[.slice none 0 0, .slice none 0 0, .slice none 0 0] 30 (0, 0)) (mF BK290.out) NB290_0.out (by simp)) <| az (Kd.R_mono (Kd.R_keep (IsS93.apart (show IsS93 w0 _ g s0_0 t300 from mI93_1 HI0.out) (by (with_reducible repeat (first | apply Kd.R_alloc | apply Kd.R_drewN | apply Kd.R_drew)); exact (Kd.R_mono (Kd.R_far (p := ⟨gb301, 2, none⟩) (Kd.R_far (p := ⟨gb301, 1, none⟩) (Kd.R_far (p := ⟨gb301, 0, none⟩) (Kd.R_types HO293.out BK301.out (by decide)) (fun _ hk => hk.2) (.slice Ao8 t291.length co8)) (fun _ hk => hk.2) (.slice Ao12 t294.length co12)) (fun _ hk => hk.2) (.slice Ao13 t297.length co13)) (fun _ h_ => h_.1))) (by decide)) hk (fun _ h => h.2)) (fun _ h => h.1)) <| az (Kd.R_mono (Kd.R_keep (IsS93.apart (show IsS93 w0 _ g s0_0 t300 from mI93_1 HI0.out) (by (with_reducible repeat (first | apply Kd.R_alloc | apply Kd.R_drewN | apply Kd.R_drew)); exact (Kd.R_mono (Kd.R_far (p := ⟨gb301, 2, none⟩) (Kd.R_far (p := ⟨gb301, 1, none⟩) (Kd.R_far (p := ⟨gb301, 0, none⟩) (Kd.R_types HO296.out BK301.out (by decide)) (fun _ hk => hk.2) (.slice Ao8 t291.length co8)) (fun _ hk => hk.2) (.slice Ao12 t294.length co12)) (fun _ hk => hk.2) (.slice Ao13 t297.length co13)) (fun _ h_ => h_.1))) (by decide)) hk (fun _ h => h.2)) (fun _ h => h.1)) <| az (Kd.R_mono (Kd.R_keep (IsS93.apart (show IsS93 w0 _ g s0_0 t300 from mI93_1 HI0.out) (by (with_reducible repeat (first | apply Kd.R_alloc | apply Kd.R_drewN | apply Kd.R_drew)); exact (Kd.R_mono (Kd.R_far (p := ⟨gb301, 2, none⟩) (Kd.R_far (p := ⟨gb301, 1, none⟩) (Kd.R_far (p := ⟨gb301, 0, none⟩) (Kd.R_types HO299.out BK301.out (by decide)) (fun _ hk => hk.2) (.slice Ao8 t291.length co8)) (fun _ hk => hk.2) (.slice Ao12 t294.length co12)) (fun _ hk => hk.2) (.slice Ao13 t297.length co13)) (fun _ h_ => h_.1))) (by decide)) hk (fun _ h => h.2)) (fun _ h => h.1)) <| az (KeepBut.blk hk (g' := gb301) (o := .cells #[.slice Ao8 t291.length co8, .slice Ao12 t294.length co12, .slice Ao13 t297.length co13] 30 (0, 0)) (by (with_reducible repeat (first | refine blk_drewN ?_ _ | refine blk_drew ?_ | refine blk_alloc ?_ _)); refine blk_put (cs := #[.slice Ao8 t291.length co8, .slice Ao12 t294.length co12, .slice none 0 0]) ?_ 2 _ rfl; (with_reducible repeat (first | refine blk_drewN ?_ _ | refine blk_drew ?_ | refine blk_alloc ?_ _)); refine blk_put (cs := #[.slice Ao8 t291.length co8, .slice none 0 0, .slice none 0 0]) ?_ 1 _ rfl; (with_reducible repeat (first | refine blk_drewN ?_ _ | refine blk_drew ?_ | refine blk_alloc ?_ _)); refine blk_put (cs := #[.slice none 0 0, .slice none 0 0, .slice none 0 0]) ?_ 0 _ rfl; (with_reducible repeat (first | refine blk_drewN ?_ _ | refine blk_drew ?_ | refine blk_alloc ?_ _)); exact BK301.out) NB301_0.out (by simp)) <| az (KeepBut.trans (mKp HK.out) hk (.inl rfl)) <| az (hb) <| z0 (hi); clear BK290 HO293 HO296 HO299 BK301 HK HB HI0; obtain ⟨BK290, HO293, HO296, HO299, BK301, HK, HB, HI0⟩ := n_; clear hb hk hi))
 (try simp only [Act.put, List.setIfInBounds_toArray, List.set_cons_zero, List.set_cons_succ])
 have H := HF4.out
 clear HF4
 (try clear hcz11_0); (try clear hcz11_1); (try clear hcz11_2); (try clear hfz11_0); (try clear hfz11_1); (try clear hfz11_2)
 by_cases c15 : t302 = 0
 ·rw [if_pos c15] at H
  have c15b0 : (t302 == 0) = true := beq_iff_eq.mpr c15
  have c15b1 : (t302 != 0) = false := bne_eq_false_iff_eq.mpr c15
  clear c15
  (first | rw [c15b0] | (simp only [i64_w, i32_w]; rw [c15b0]) | skip)
  by_cases c16 : 2 ≤ (t291.length : Int)
  ·rw [if_pos c16] at H
   have c16b0 := eq_true c16
   have c16b1 : decide (2 ≤ (t291.length : Int)) = true := decide_eq_true c16
   clear c16
   obtain ⟨y304, hy304⟩ : ∃ y_ : List Int, y_ = (t291.take (2 : Int).toNat) := ⟨_, rfl⟩
   replace H : (some (y304, t294, t297, t303)) = some (r1, r2, r3, r4) := by first | (rw [hy304]; with_reducible exact H) | (have H2_ := (Option.bind_some _ _).symm.trans H; rw [hy304]; with_reducible exact H2_) | (have H2_ := (Option.bind_some _ _).symm.trans H; with_reducible exact H2_) | with_reducible exact H | (rw [hy304]; exact H) | exact H
   have Ny304 := z0 hy304
   clear hy304
   simp only [Option.some.injEq, Prod.mk.injEq] at H
   obtain ⟨rfl, rfl, rfl, rfl⟩ := H
   have hnb17 := NB301_290.out
   have hnc17 := NB290_301.out
   have hnb18 := NB301_0.out
   have hnc18 := NB0_301.out
   obtain ⟨hcz19_0, hcz19_1, hcz19_2, hfz19_0, hfz19_1, hfz19_2⟩ := cel3 BK301.out
   have q20 : (2 : Int) ≤ ((t291.length : Int) : Int) := of_decide_eq_true (by first | (with_reducible assumption) | assumption)
   obtain ⟨i020, hi020, _, hsz20, _⟩ := info_parts info3
   have hcut20 := cut_to (P := Tryz.prog) 28 3 .i64 Tryz.underlying28 hi020 Ao8 t291.length co8 2 (by omega) q20 (Kd.R_reads' HO293.out).2.1
   have hr20 := Kd.R_take (m := (2 : Int).toNat) HO293.out (by omega)
   have hy20 : y304.length = (2 : Int).toNat := (by rw [Ny304.out, List.length_take]; omega)
   rw [← Ny304.out] at hr20
   rw [← hy20] at hr20 hcut20
   clear hy20 hi020 hsz20 HO293
   have HO306 := z0 hr20
   clear hr20
   replace q20 := eq_true q20
   have hnb21 := NB290_0.out
   have hnc21 := NB0_290.out
   obtain ⟨hcz22_0, hcz22_1, hcz22_2, hfz22_0, hfz22_1, hfz22_2⟩ := cel3 BK290.out
   go_wp2
   refine bodyPost_ret (results_cell_row rfl _ _ gb290 30 #[.slice Ao8 y304.length co8, .slice Ao12 t294.length co12, .slice Ao13 t297.length co13] (0, 0) _ rfl (by (with_reducible repeat (first | refine blk_drewN ?_ _ | refine blk_drew ?_ | refine blk_alloc ?_ _)); refine blk_put (cs := #[.slice Ao8 y304.length co8, .slice Ao12 t294.length co12, .slice none 0 0]) ?_ 2 _ rfl; (with_reducible repeat (first | refine blk_drewN ?_ _ | refine blk_drew ?_ | refine blk_alloc ?_ _)); refine blk_put (cs := #[.slice Ao8 y304.length co8, .slice none 0 0, .slice none 0 0]) ?_ 1 _ rfl; (with_reducible repeat (first | refine blk_drewN ?_ _ | refine blk_drew ?_ | refine blk_alloc ?_ _)); refine blk_put (cs := #[.slice none 0 0, .slice none 0 0, .slice none 0 0]) ?_ 0 _ rfl; (with_reducible repeat (first | refine blk_drewN ?_ _ | refine blk_drew ?_ | refine blk_alloc ?_ _)); refine blk_far ?_ NB290_301.out _; (with_reducible repeat (first | refine blk_drewN ?_ _ | refine blk_drew ?_ | refine blk_alloc ?_ _)); exact BK290.out) Tryz.underlying30 rfl (by kernel_rfl)) rfl ?_
   exact ⟨_, _, _, rfx, by (with_reducible repeat (first | apply Kd.R_alloc | apply Kd.R_drewN | apply Kd.R_drew)); exact Kd.R_mono (Kd.R_far (p := ⟨gb290, 2, none⟩) (Kd.R_far (p := ⟨gb290, 1, none⟩) (Kd.R_far (p := ⟨gb290, 0, none⟩) (Kd.R_far (p := ⟨gb301, 0, none⟩) (Kd.R_types (Kd.R_types HO306.out BK301.out (by decide)) BK290.out (by decide)) (fun _ hk => hk.1.2) (.slice Ao8 y304.length co8)) (fun _ hk => hk.2) (.slice Ao8 y304.length co8)) (fun _ hk => hk.2) (.slice Ao12 t294.length co12)) (fun _ hk => hk.2) (.slice Ao13 t297.length co13)) (fun _ hk => by first | exact ⟨hk.1.1.1, hk.1.1.2⟩ | exact ⟨ownLen_ hk.1.1.1, hk.1.1.2⟩), by (with_reducible repeat (first | apply Kd.R_alloc | apply Kd.R_drewN | apply Kd.R_drew)); exact Kd.R_mono (Kd.R_far (p := ⟨gb290, 2, none⟩) (Kd.R_far (p := ⟨gb290, 1, none⟩) (Kd.R_far (p := ⟨gb290, 0, none⟩) (Kd.R_far (p := ⟨gb301, 0, none⟩) (Kd.R_types (Kd.R_types HO296.out BK301.out (by decide)) BK290.out (by decide)) (fun _ hk => hk.1.2) (.slice Ao8 y304.length co8)) (fun _ hk => hk.2) (.slice Ao8 y304.length co8)) (fun _ hk => hk.2) (.slice Ao12 t294.length co12)) (fun _ hk => hk.2) (.slice Ao13 t297.length co13)) (fun _ hk => by first | exact ⟨hk.1.1.1, hk.1.1.2⟩ | exact ⟨ownLen_ hk.1.1.1, hk.1.1.2⟩), by (with_reducible repeat (first | apply Kd.R_alloc | apply Kd.R_drewN | apply Kd.R_drew)); exact Kd.R_mono (Kd.R_far (p := ⟨gb290, 2, none⟩) (Kd.R_far (p := ⟨gb290, 1, none⟩) (Kd.R_far (p := ⟨gb290, 0, none⟩) (Kd.R_far (p := ⟨gb301, 0, none⟩) (Kd.R_types (Kd.R_types HO299.out BK301.out (by decide)) BK290.out (by decide)) (fun _ hk => hk.1.2) (.slice Ao8 y304.length co8)) (fun _ hk => hk.2) (.slice Ao8 y304.length co8)) (fun _ hk => hk.2) (.slice Ao12 t294.length co12)) (fun _ hk => hk.2) (.slice Ao13 t297.length co13)) (fun _ hk => by first | exact ⟨hk.1.1.1, hk.1.1.2⟩ | exact ⟨ownLen_ hk.1.1.1, hk.1.1.2⟩), mI93_1 HI0.out, mB93HI0 HB.out, mKp HK.out⟩
  ·rw [if_neg c16] at H
   exact absurd H (by simp)
 ·rw [if_neg c15] at H
  have c15b0 : (t302 == 0) = false := beq_eq_false_iff_ne.mpr c15
  have c15b1 : (t302 != 0) = true := bne_iff_ne.mpr c15
  (first | rw [c15b0] | (simp only [i64_w, i32_w]; rw [c15b0]) | skip)
  by_cases c23 : t302 = 1
  ·rw [if_pos c23] at H
   have c23b0 : (t302 == 1) = true := beq_iff_eq.mpr c23
   have c23b1 : (t302 != 1) = false := bne_eq_false_iff_eq.mpr c23
   clear c23
   by_cases c24 : 0 < (t297.length : Int)
   ·rw [if_pos c24] at H
    have c24b0 : decide (0 < (t297.length : Int)) = true := decide_eq_true c24
    have c24b1 : decide (0 < t297.length) = true := decide_eq_true (by omega)
    clear c24
    obtain ⟨y307, hy307⟩ : ∃ y_ : List Int, y_ = (t297.set (0 : Int).toNat 1000001) := ⟨_, rfl⟩
    replace H : (some (t291, t294, y307, t303)) = some (r1, r2, r3, r4) := by first | (rw [hy307]; with_reducible exact H) | (have H2_ := (Option.bind_some _ _).symm.trans H; rw [hy307]; with_reducible exact H2_) | (have H2_ := (Option.bind_some _ _).symm.trans H; with_reducible exact H2_) | with_reducible exact H | (rw [hy307]; exact H) | exact H
    have Ny307 := z0 hy307
    clear hy307
    simp only [Option.some.injEq, Prod.mk.injEq] at H
    obtain ⟨rfl, rfl, rfl, rfl⟩ := H
    have hnb26 := NB301_290.out
    have hnc26 := NB290_301.out
    have hnb27 := NB301_0.out
    have hnc27 := NB0_301.out
    obtain ⟨hcz28_0, hcz28_1, hcz28_2, hfz28_0, hfz28_1, hfz28_2⟩ := cel3 BK301.out
    have p25 : 0 ≤ (0 : Int) := (by omega)
    have q25 : (0 : Int) < ((t297.length : Int) : Int) := of_decide_eq_true (by first | (with_reducible assumption) | assumption)
    have qi25 : (0 < t297.length) = True := eq_true (by omega)
    obtain ⟨go25, co25, eo25, gb25, gl25, cl25, HG25⟩ := Kd.R_form HO299.out (by omega)
    (first | cases eo25 | (injection eo25 with ea_ en_ ec_; (first | subst ea_ | (injection ea_ with ea_; subst ea_)); subst ec_; clear en_))
    have GB25 := z0 gb25
    have GG25 := z0 HG25
    clear gb25 gl25 HG25
    obtain ⟨hx25_0, hf25_0⟩ := Kd.R_celln 0 HO299.out (0 : Int) p25 q25
    (try rw [show ((0 : Int)).toNat = 0 from rfl] at hx25_0)
    (try simp only [Nat.reduceMul, Nat.zero_mul, Nat.zero_add, Nat.reduceAdd] at hx25_0)
    (try rw [show ((0 : Int)).toNat = 0 from rfl] at hf25_0)
    (try simp only [Nat.reduceMul, Nat.zero_mul, Nat.zero_add, Nat.reduceAdd] at hf25_0)
    replace p25 := eq_true p25
    replace q25 := eq_true q25
    have HP29 := Kd.R_putg HO299.out (0 : Int) 1000001
    go_wp2_with (first | ((with_reducible refine gate_store (t := 3) (p := 18) rfl ?_); refine store_event (t := 3) (p := 18) (v := ?vo_w30) (w1 := (w14.setCell ⟨go25, (0 : Int).toNat, none⟩ (.int .i64 1000001))) ?hg ?ho ?hn ?hr ?_; (case ho => rfl); (case hg => rfl); (case hn => rfl); (case hr => first | (go_simp; done) | (go_simp; rfl)); intro w30 hw; have hg : w14.grownBy w30 (some go25) := (by rw [hw]; exact HP29.2); have hp_ : Kd.R (Kd.int .i64) 3 w30 w.heap.size (fun k_ => nB k_ (.slice Ao8 t291.length co8) ∧ nB k_ (.slice Ao12 t294.length co12)) (.slice (some ⟨go25, 0, none⟩) t297.length co13) y307 := (by rw [hw, Ny307.out]; exact HP29.1); clear HP29; have n_ := az (IsS93.grown (mI93_1 HI0.out) hg (IsS93.own_ne HI0.out HO299.out (by decide))) <| az (blk_grown (g := gb290) (o := .cells #[.slice none 0 0, .slice none 0 0, .slice none 0 0] 30 (0, 0)) (mK BK290.out) hg (Kd.R_ne HO299.out BK290.out (by decide))) <| az (Kd.R_after (v := (.slice (some ⟨go25, 0, none⟩) t297.length co13)) (v1 := (.slice (some ⟨go25, 0, none⟩) t297.length co13)) (ok := (fun k_ => nB k_ (.slice Ao12 t294.length co12))) (mR HO293.out) hg (.inl rfl)) <| az (Kd.R_after (v := (.slice (some ⟨go25, 0, none⟩) t297.length co13)) (v1 := (.slice (some ⟨go25, 0, none⟩) t297.length co13)) (ok := (fun k_ => nB k_ (.slice Ao8 t291.length co8))) (mR HO296.out) hg (.inl rfl)) <| az (hp_) <| az (blk_grown (g := gb301) (o := .cells #[.slice Ao8 t291.length co8, .slice Ao12 t294.length co12, .slice (some ⟨go25, 0, none⟩) t297.length co13] 30 (0, 0)) (mK BK301.out) hg (Kd.R_ne HO299.out BK301.out (by decide))) <| az ((by rw [hw]; exact below_set (HB.out) (Nat.le_trans HL.out GB25.out) : Below w0.heap.size w0 w30)) <| z0 (KeepBut.trans (mKp HK.out) (KeepBut.of_grown hg g) (Kd.R_base2 HO299.out)); clear HI0 BK290 HO293 HO296 HO299 BK301 HB HK; obtain ⟨HI0, BK290, HO293, HO296, HO299, BK301, HB, HK⟩ := n_; clear hg hw hp_; obtain ⟨hcz31_0, hcz31_1, hcz31_2, hfz31_0, hfz31_1, hfz31_2⟩ := cel3 BK301.out; have hnb32 := NB290_0.out; have hnc32 := NB0_290.out; obtain ⟨hcz33_0, hcz33_1, hcz33_2, hfz33_0, hfz33_1, hfz33_2⟩ := cel3 BK290.out))
    refine bodyPost_ret (results_cell_row rfl _ _ gb290 30 #[.slice Ao8 t291.length co8, .slice Ao12 t294.length co12, .slice (some ⟨go25, 0, none⟩) t297.length co13] (0, 0) _ rfl (pF BK290.out) Tryz.underlying30 rfl (by kernel_rfl)) rfl ?_
    exact ⟨_, _, _, rfx, by (with_reducible repeat (first | apply Kd.R_alloc | apply Kd.R_drewN | apply Kd.R_drew)); exact Kd.R_mono (Kd.R_far (p := ⟨gb290, 2, none⟩) (Kd.R_far (p := ⟨gb290, 1, none⟩) (Kd.R_far (p := ⟨gb290, 0, none⟩) (Kd.R_types HO293.out BK290.out (by decide)) (fun _ hk => hk.2) (.slice Ao8 t291.length co8)) (fun _ hk => hk.2) (.slice Ao12 t294.length co12)) (fun _ hk => hk.2) (.slice (some ⟨go25, 0, none⟩) t297.length co13)) (fun _ hk => ⟨hk.1.1, hk.1.2⟩), by (with_reducible repeat (first | apply Kd.R_alloc | apply Kd.R_drewN | apply Kd.R_drew)); exact Kd.R_mono (Kd.R_far (p := ⟨gb290, 2, none⟩) (Kd.R_far (p := ⟨gb290, 1, none⟩) (Kd.R_far (p := ⟨gb290, 0, none⟩) (Kd.R_types HO296.out BK290.out (by decide)) (fun _ hk => hk.2) (.slice Ao8 t291.length co8)) (fun _ hk => hk.2) (.slice Ao12 t294.length co12)) (fun _ hk => hk.2) (.slice (some ⟨go25, 0, none⟩) t297.length co13)) (fun _ hk => ⟨hk.1.1, hk.1.2⟩), by (with_reducible repeat (first | apply Kd.R_alloc | apply Kd.R_drewN | apply Kd.R_drew)); exact Kd.R_mono (Kd.R_far (p := ⟨gb290, 2, none⟩) (Kd.R_far (p := ⟨gb290, 1, none⟩) (Kd.R_far (p := ⟨gb290, 0, none⟩) (Kd.R_types HO299.out BK290.out (by decide)) (fun _ hk => hk.2) (.slice Ao8 t291.length co8)) (fun _ hk => hk.2) (.slice Ao12 t294.length co12)) (fun _ hk => hk.2) (.slice (some ⟨go25, 0, none⟩) t297.length co13)) (fun _ hk => ⟨hk.1.1, hk.1.2⟩), mI93_1 HI0.out, mB93HI0 HB.out, mKp HK.out⟩
   ·rw [if_neg c24] at H
    exact absurd H (by simp)
  ·rw [if_neg c23] at H
   have c23b0 : (t302 == 1) = false := beq_eq_false_iff_ne.mpr c23
   have c23b1 : (t302 != 1) = true := bne_iff_ne.mpr c23
   by_cases c34 : t302 = 2
   ·rw [if_pos c34] at H
    have c34b0 : (t302 == 2) = true := beq_iff_eq.mpr c34
    have c34b1 : (t302 != 2) = false := bne_eq_false_iff_eq.mpr c34
    clear c34
    by_cases c35 : t294.length < 17592186044416
    ·rw [if_pos c35] at H
     have LMc35 := z0 c35
     clear c35
     obtain ⟨y308, hy308⟩ : ∃ y_ : List Int, y_ = (t294 ++ [0]) := ⟨_, rfl⟩
     replace H : (some (t291, y308, t297, t303)) = some (r1, r2, r3, r4) := by first | (rw [hy308]; with_reducible exact H) | (have H2_ := (Option.bind_some _ _).symm.trans H; rw [hy308]; with_reducible exact H2_) | (have H2_ := (Option.bind_some _ _).symm.trans H; with_reducible exact H2_) | with_reducible exact H | (rw [hy308]; exact H) | exact H
     have Ny308 := z0 hy308
     clear hy308
     simp only [Option.some.injEq, Prod.mk.injEq] at H
     obtain ⟨rfl, rfl, rfl, rfl⟩ := H
     have hnb36 := NB301_290.out
     have hnc36 := NB290_301.out
     have hnb37 := NB301_0.out
     have hnc37 := NB0_301.out
     obtain ⟨hcz38_0, hcz38_1, hcz38_2, hfz38_0, hfz38_1, hfz38_2⟩ := cel3 BK301.out
     go_wp2_with (first | ((with_reducible refine gate_builtin (b := .append) (xs := #[.tmp 22, .tmp 23]) rfl ?_); at_builtin; refine Kd.R_append (Kd.int .i64) w.heap.size rfl (.tmp 22) (.tmp 23) 28 3 (.int .i64 0) 8 rfl Tryz.underlying28 info3 rfl (by decide) (by omega) (.slice Ao12 t294.length co12) t294 0 [.int .i64 0] (fun k_ => nB k_ (.slice Ao8 t291.length co8) ∧ nB k_ (.slice Ao13 t297.length co13)) (fun _ => False) rfl rfl ?aP (fun _ hk => hk.elim) ?aF ?aO (Below.refl _ _) ?aS ?aL ?_; (case aP => exact rfl); (case aF => exact (fun k_ hk => ⟨Kd.fresh' (Kd.R_lt (mR HO293.out)) k_ hk, Kd.fresh' (Kd.R_lt (mR HO299.out)) k_ hk⟩)); (case aO => exact (mR HO296.out)); (case aS => exact (kS HK.out)); (case aL => have := LMc35.out; omega); intro v309 w39 ho hb hg hat; rw [← Ny308.out] at ho; have n_ := az (IsS93.grown (mI93_1 HI0.out) hg (IsS93.own_ne HI0.out HO296.out (by decide))) <| az (blk_grown (g := gb290) (o := .cells #[.slice none 0 0, .slice none 0 0, .slice none 0 0] 30 (0, 0)) (mK BK290.out) hg (Kd.R_ne HO296.out BK290.out (by decide))) <| az (Kd.R_after (ok := (fun k_ => nB k_ (.slice Ao13 t297.length co13))) (by (with_reducible repeat (first | apply Kd.R_alloc | apply Kd.R_drewN | apply Kd.R_drew)); exact Kd.R_mono HO293.out (fun _ hk => ⟨hk.2, hk.1⟩)) hg hat) <| az (Kd.R_after (ok := (fun k_ => nB k_ (.slice Ao8 t291.length co8))) (mR HO299.out) hg hat) <| az (blk_grown (g := gb301) (o := .cells #[.slice Ao8 t291.length co8, .slice Ao12 t294.length co12, .slice Ao13 t297.length co13] 30 (0, 0)) (mK BK301.out) hg (Kd.R_ne HO296.out BK301.out (by decide))) <| az (below_weaken (mB93HI0 HB.out) HL.out hb) <| az (KeepBut.trans (mKp HK.out) (KeepBut.of_grown hg g) (Kd.R_base2 HO296.out)) <| z0 (ho); clear HI0 BK290 HO293 HO299 BK301 HB HK HO296; obtain ⟨HI0, BK290, HO293, HO299, BK301, HB, HK, HO310⟩ := n_; clear ho hb hg hat; obtain ⟨Ao40, co40, eo40⟩ := Kd.R_slice HO310.out; subst eo40; obtain ⟨hcz41_0, hcz41_1, hcz41_2, hfz41_0, hfz41_1, hfz41_2⟩ := cel3 BK301.out; have hnb42 := NB290_0.out; have hnc42 := NB0_290.out; obtain ⟨hcz43_0, hcz43_1, hcz43_2, hfz43_0, hfz43_1, hfz43_2⟩ := cel3 BK290.out))
     refine bodyPost_ret (results_cell_row rfl _ _ gb290 30 #[.slice Ao8 t291.length co8, .slice Ao40 y308.length co40, .slice Ao13 t297.length co13] (0, 0) _ rfl (by (with_reducible repeat (first | refine blk_drewN ?_ _ | refine blk_drew ?_ | refine blk_alloc ?_ _)); refine blk_put (cs := #[.slice Ao8 t291.length co8, .slice Ao40 y308.length co40, .slice none 0 0]) ?_ 2 _ rfl; (with_reducible repeat (first | refine blk_drewN ?_ _ | refine blk_drew ?_ | refine blk_alloc ?_ _)); refine blk_put (cs := #[.slice Ao8 t291.length co8, .slice none 0 0, .slice none 0 0]) ?_ 1 _ rfl; (with_reducible repeat (first | refine blk_drewN ?_ _ | refine blk_drew ?_ | refine blk_alloc ?_ _)); refine blk_put (cs := #[.slice none 0 0, .slice none 0 0, .slice none 0 0]) ?_ 0 _ rfl; (with_reducible repeat (first | refine blk_drewN ?_ _ | refine blk_drew ?_ | refine blk_alloc ?_ _)); refine blk_far ?_ NB290_301.out _; (with_reducible repeat (first | refine blk_drewN ?_ _ | refine blk_drew ?_ | refine blk_alloc ?_ _)); exact BK290.out) Tryz.underlying30 rfl (by kernel_rfl)) rfl ?_
     exact ⟨_, _, _, rfx, by (with_reducible repeat (first | apply Kd.R_alloc | apply Kd.R_drewN | apply Kd.R_drew)); exact Kd.R_mono (Kd.R_far (p := ⟨gb290, 2, none⟩) (Kd.R_far (p := ⟨gb290, 1, none⟩) (Kd.R_far (p := ⟨gb290, 0, none⟩) (Kd.R_far (p := ⟨gb301, 1, none⟩) (Kd.R_types (Kd.R_types HO293.out BK301.out (by decide)) BK290.out (by decide)) (fun _ hk => hk.1.2) (.slice Ao40 y308.length co40)) (fun _ hk => hk.2) (.slice Ao8 t291.length co8)) (fun _ hk => hk.2) (.slice Ao40 y308.length co40)) (fun _ hk => hk.2) (.slice Ao13 t297.length co13)) (fun _ hk => ⟨hk.1.1.2, hk.1.1.1⟩), by (with_reducible repeat (first | apply Kd.R_alloc | apply Kd.R_drewN | apply Kd.R_drew)); exact Kd.R_mono (Kd.R_far (p := ⟨gb290, 2, none⟩) (Kd.R_far (p := ⟨gb290, 1, none⟩) (Kd.R_far (p := ⟨gb290, 0, none⟩) (Kd.R_far (p := ⟨gb301, 1, none⟩) (Kd.R_types (Kd.R_types HO310.out BK301.out (by decide)) BK290.out (by decide)) (fun _ hk => hk.1.2) (.slice Ao40 y308.length co40)) (fun _ hk => hk.2) (.slice Ao8 t291.length co8)) (fun _ hk => hk.2) (.slice Ao40 y308.length co40)) (fun _ hk => hk.2) (.slice Ao13 t297.length co13)) (fun _ hk => by first | exact ⟨hk.1.1.1, hk.1.1.2⟩ | exact ⟨ownLen_ hk.1.1.1, hk.1.1.2⟩), by (with_reducible repeat (first | apply Kd.R_alloc | apply Kd.R_drewN | apply Kd.R_drew)); exact Kd.R_mono (Kd.R_far (p := ⟨gb290, 2, none⟩) (Kd.R_far (p := ⟨gb290, 1, none⟩) (Kd.R_far (p := ⟨gb290, 0, none⟩) (Kd.R_far (p := ⟨gb301, 1, none⟩) (Kd.R_types (Kd.R_types HO299.out BK301.out (by decide)) BK290.out (by decide)) (fun _ hk => hk.1.2) (.slice Ao40 y308.length co40)) (fun _ hk => hk.2) (.slice Ao8 t291.length co8)) (fun _ hk => hk.2) (.slice Ao40 y308.length co40)) (fun _ hk => hk.2) (.slice Ao13 t297.length co13)) (fun _ hk => by first | exact ⟨hk.1.1.1, hk.1.1.2⟩ | exact ⟨ownLen_ hk.1.1.1, hk.1.1.2⟩), mI93_1 HI0.out, mB93HI0 HB.out, mKp HK.out⟩
    ·rw [if_neg c35] at H
     exact absurd H (by simp)
   ·rw [if_neg c34] at H
    have c34b0 : (t302 == 2) = false := beq_eq_false_iff_ne.mpr c34
    have c34b1 : (t302 != 2) = true := bne_iff_ne.mpr c34
    simp only [Option.some.injEq, Prod.mk.injEq] at H
    obtain ⟨rfl, rfl, rfl, rfl⟩ := H
    have hnb44 := NB301_290.out
    have hnc44 := NB290_301.out
    have hnb45 := NB301_0.out
    have hnc45 := NB0_301.out
    obtain ⟨hcz46_0, hcz46_1, hcz46_2, hfz46_0, hfz46_1, hfz46_2⟩ := cel3 BK301.out
    have hnb47 := NB290_0.out
    have hnc47 := NB0_290.out
    obtain ⟨hcz48_0, hcz48_1, hcz48_2, hfz48_0, hfz48_1, hfz48_2⟩ := cel3 BK290.out
    go_wp2
    refine bodyPost_ret (results_cell_row rfl _ _ gb290 30 #[.slice Ao8 t291.length co8, .slice Ao12 t294.length co12, .slice Ao13 t297.length co13] (0, 0) _ rfl (pF BK290.out) Tryz.underlying30 rfl (by kernel_rfl)) rfl ?_
    exact ⟨_, _, _, rfx, by (with_reducible repeat (first | apply Kd.R_alloc | apply Kd.R_drewN | apply Kd.R_drew)); exact Kd.R_mono (Kd.R_far (p := ⟨gb290, 2, none⟩) (Kd.R_far (p := ⟨gb290, 1, none⟩) (Kd.R_far (p := ⟨gb290, 0, none⟩) (Kd.R_types HO293.out BK290.out (by decide)) (fun _ hk => hk.2) (.slice Ao8 t291.length co8)) (fun _ hk => hk.2) (.slice Ao12 t294.length co12)) (fun _ hk => hk.2) (.slice Ao13 t297.length co13)) (fun _ hk => ⟨hk.1.1, hk.1.2⟩), by (with_reducible repeat (first | apply Kd.R_alloc | apply Kd.R_drewN | apply Kd.R_drew)); exact Kd.R_mono (Kd.R_far (p := ⟨gb290, 2, none⟩) (Kd.R_far (p := ⟨gb290, 1, none⟩) (Kd.R_far (p := ⟨gb290, 0, none⟩) (Kd.R_types HO296.out BK290.out (by decide)) (fun _ hk => hk.2) (.slice Ao8 t291.length co8)) (fun _ hk => hk.2) (.slice Ao12 t294.length co12)) (fun _ hk => hk.2) (.slice Ao13 t297.length co13)) (fun _ hk => ⟨hk.1.1, hk.1.2⟩), by (with_reducible repeat (first | apply Kd.R_alloc | apply Kd.R_drewN | apply Kd.R_drew)); exact Kd.R_mono (Kd.R_far (p := ⟨gb290, 2, none⟩) (Kd.R_far (p := ⟨gb290, 1, none⟩) (Kd.R_far (p := ⟨gb290, 0, none⟩) (Kd.R_types HO299.out BK290.out (by decide)) (fun _ hk => hk.2) (.slice Ao8 t291.length co8)) (fun _ hk => hk.2) (.slice Ao12 t294.length co12)) (fun _ hk => hk.2) (.slice Ao13 t297.length co13)) (fun _ hk => ⟨hk.1.1, hk.1.2⟩), mI93_1 HI0.out, mB93HI0 HB.out, mKp HK.out⟩

end Go.Proofs.YtendbgedpjcocaaGreatDoor.B
