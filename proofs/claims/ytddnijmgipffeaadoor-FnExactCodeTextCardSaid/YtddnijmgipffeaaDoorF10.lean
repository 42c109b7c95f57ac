-- printed by base.py (this claim's tool) over the kit's print
import Derived.Test.YtddnijmgipffeaaDoorB0
import Derived.Test.YtddnijmgipffeaaDoorSq
import Derived.Test.YtddnijmgipffeaaDoorF16
namespace Go.Proofs.YtddnijmgipffeaaDoor.B
open Go.RowKit Go.Proofs.YtddnijmgipffeaaDoorW.PrintWords Go.Proofs.YtddnijmgipffeaaDoorW.PrintLast Go.Proofs.YtddnijmgipffeaaDoorW.PrintMore
attribute [local go_sem] max2_int min2_int max_two min_two max_three min_three max_four min_four   -- for this text's walks alone
set_option linter.unusedVariables false
set_option linter.unusedSimpArgs false

/-! ### laws_toIns: function 10 -/
def laws_toIns.f (a0_0 : Int) (a0_1 : Int) (a0_2 : Int) (a0_3 : Int) : Option (Int × Int × Int × Int) := (laws_toAddr.f a0_2 a0_3).bind fun bt138 => (some (a0_0, a0_1, bt138.1, bt138.2))
set_option maxHeartbeats 8000000 in
set_option maxRecDepth 100000 in
theorem laws_toIns.calls (a0_0 : Int) (a0_1 : Int) (a0_2 : Int) (a0_3 : Int) (r1 : Int) (r2 : Int) (r3 : Int) (r4 : Int) (w : World) (h : laws_toIns.f a0_0 a0_1 a0_2 a0_3 = some (r1, r2, r3, r4)) :
  Calls Tryd.prog 10 #[.agg #[.int .i64 a0_0, .int .i64 a0_1, .int .i64 a0_2, .int .i64 a0_3]] w fun e w' => e = .returned (.agg #[.int .i64 r1, .int .i64 r2, .int .i64 r3, .int .i64 r4]) ∧ Below w.heap.size w w' := by
 have hu37 := Tryd.underlying37
 have hu33 := Tryd.underlying33
 have hu35 := Tryd.underlying35
 have hu31 := Tryd.underlying31
 have HB := z0 (Below.refl w.heap.size w)
 have H : ((laws_toAddr.f a0_2 a0_3).bind fun bt138 => (some (a0_0, a0_1, bt138.1, bt138.2))) = some (r1, r2, r3, r4) := h
 clear h
 replace H := Option.bind_eq_some_iff.mp H
 obtain ⟨⟨t138, t139⟩, A20, H⟩ := H
 try dsimp only at H
 have A2 := z0 A20
 clear A20
 simp only [Option.some.injEq, Prod.mk.injEq] at H
 obtain ⟨rfl, rfl, rfl, rfl⟩ := H
 go_enter Tryd.func10, Tryd.ntmps10
 go_wp2_with (first | ((with_reducible refine gate_dst (N := 1) rfl ?_); refine box_event ?hg (N := 1) ?hd (cs := #[.int .i64 a0_0, .int .i64 a0_1, .int .i64 a0_2, .int .i64 a0_3]) (t := 37) ?hr ?_; (case hd => rfl); (case hg => rfl); (case hr => first | (go_simp; done) | (go_simp; rfl)); intro gb135 hg w3 hbox hb; have n_ := az (below_step (mB HB.out) hb) <| az (hbox) <| az ((by rw [hg]; exact (below_size (mB HB.out)) : w.heap.size ≤ gb135)) <| z0 ((by rw [hg]; exact (below_size (mB HB.out)) : w.heap.size ≤ gb135)); clear HB; obtain ⟨HB, BK135, GW135, GE135⟩ := n_; clear hb hbox hg) | ((with_reducible refine gate_dst (N := 2) rfl ?_); refine box_event ?hg (N := 2) ?hd (cs := #[.int .i64 0, .int .i64 0, .int .i64 0, .int .i64 0]) (t := 33) ?hr ?_; (case hd => rfl); (case hg => rfl); (case hr => first | (go_simp; done) | (go_simp; rfl)); intro gb136 hg w4 hbox hb; have n_ := az (bB BK135.out hb) <| az (below_step (mB HB.out) hb) <| az (hbox) <| az ((by rw [hg]; exact (below_size (mB HB.out)) : w.heap.size ≤ gb136)) <| az ((by rw [hg]; exact (below_size (mB HB.out)) : w.heap.size ≤ gb136)) <| az ((nL hg BK135.out)) <| z0 ((nG hg BK135.out)); clear BK135 HB; obtain ⟨BK135, HB, BK136, GW136, GE136, NB135_136, NB136_135⟩ := n_; clear hb hbox hg) | ((with_reducible refine gate_dst (N := 3) rfl ?_); refine box_event ?hg (N := 3) ?hd (cs := #[.int .i64 0, .int .i64 0, .int .i64 0, .int .i64 0]) (t := 33) ?hr ?_; (case hd => rfl); (case hg => rfl); (case hr => first | (go_simp; done) | (go_simp; rfl)); intro gb137 hg w5 hbox hb; have n_ := az (bB BK135.out hb) <| az (bB BK136.out hb) <| az (below_step (mB HB.out) hb) <| az (hbox) <| az ((by rw [hg]; exact (below_size (mB HB.out)) : w.heap.size ≤ gb137)) <| az ((by rw [hg]; exact (below_size (mB HB.out)) : w.heap.size ≤ gb137)) <| az ((nL hg BK135.out)) <| az ((nG hg BK135.out)) <| az ((nL hg BK136.out)) <| z0 ((nG hg BK136.out)); clear BK135 BK136 HB; obtain ⟨BK135, BK136, HB, BK137, GW137, GE137, NB135_137, NB137_135, NB136_137, NB137_136⟩ := n_; clear hb hbox hg; have hnb6 := NB135_136.out; have hnc6 := NB136_135.out; have hnb7 := NB135_137.out; have hnc7 := NB137_135.out; obtain ⟨hcz8_0, hcz8_1, hcz8_2, hcz8_3, hfz8_0, hfz8_1, hfz8_2, hfz8_3⟩ := cel4 BK135.out; have hnb9 := NB137_136.out; have hnc9 := NB136_137.out; obtain ⟨hcz10_0, hcz10_1, hcz10_2, hcz10_3, hfz10_0, hfz10_1, hfz10_2, hfz10_3⟩ := cel4 BK137.out) | ((with_reducible refine gate_callee (f := 16) rfl ?_); refine goesL_ (some 12) rfl rfl Tryd.func16 (by kernel_rfl) rfl #[.agg #[.int .i64 a0_2, .int .i64 a0_3]] rfl argx ?_; (with_reducible refine (laws_toAddr.calls a0_2 a0_3 t138 t139 _ A2.out).mono ?_); rintro e w11 ⟨rfl, hb⟩; refine ⟨_, rfl, ?_⟩; have n_ := az (blk_below (g := gb135) (o := .cells #[.int .i64 a0_0, .int .i64 a0_1, .int .i64 a0_2, .int .i64 a0_3] 37 (0, 0)) (mF BK135.out) hb) <| az (blk_below (g := gb136) (o := .cells #[.int .i64 0, .int .i64 0, .int .i64 0, .int .i64 0] 33 (0, 0)) (mF BK136.out) hb) <| az (blk_below (g := gb137) (o := .cells #[.int .i64 a0_0, .int .i64 a0_1, .int .i64 0, .int .i64 0] 33 (0, 0)) (by (with_reducible repeat (first | refine blk_drewN ?_ _ | refine blk_drew ?_ | refine blk_alloc ?_ _)); refine blk_put (cs := #[.int .i64 a0_0, .int .i64 0, .int .i64 0, .int .i64 0]) ?_ 1 _ rfl; (with_reducible repeat (first | refine blk_drewN ?_ _ | refine blk_drew ?_ | refine blk_alloc ?_ _)); refine blk_put (cs := #[.int .i64 0, .int .i64 0, .int .i64 0, .int .i64 0]) ?_ 0 _ rfl; (with_reducible repeat (first | refine blk_drewN ?_ _ | refine blk_drew ?_ | refine blk_alloc ?_ _)); exact BK137.out) hb) <| z0 (below_step (mB HB.out) hb); clear BK135 BK136 BK137 HB; obtain ⟨BK135, BK136, BK137, HB⟩ := n_; clear hb; obtain ⟨hcz12_0, hcz12_1, hcz12_2, hcz12_3, hfz12_0, hfz12_1, hfz12_2, hfz12_3⟩ := cel4 BK137.out; obtain ⟨hcz13_0, hcz13_1, hcz13_2, hcz13_3, hfz13_0, hfz13_1, hfz13_2, hfz13_3⟩ := cel4 BK136.out))
 refine bodyPost_ret (results_cell_row rfl _ _ gb136 33 #[.int .i64 a0_0, .int .i64 a0_1, .int .i64 t138, .int .i64 t139] (0, 0) _ rfl (by (with_reducible repeat (first | refine blk_drewN ?_ _ | refine blk_drew ?_ | refine blk_alloc ?_ _)); refine blk_put (cs := #[.int .i64 a0_0, .int .i64 a0_1, .int .i64 t138, .int .i64 0]) ?_ 3 _ rfl; (with_reducible repeat (first | refine blk_drewN ?_ _ | refine blk_drew ?_ | refine blk_alloc ?_ _)); refine blk_put (cs := #[.int .i64 a0_0, .int .i64 a0_1, .int .i64 0, .int .i64 0]) ?_ 2 _ rfl; (with_reducible repeat (first | refine blk_drewN ?_ _ | refine blk_drew ?_ | refine blk_alloc ?_ _)); refine blk_put (cs := #[.int .i64 a0_0, .int .i64 0, .int .i64 0, .int .i64 0]) ?_ 1 _ rfl; (with_reducible repeat (first | refine blk_drewN ?_ _ | refine blk_drew ?_ | refine blk_alloc ?_ _)); refine blk_put (cs := #[.int .i64 0, .int .i64 0, .int .i64 0, .int .i64 0]) ?_ 0 _ rfl; (with_reducible repeat (first | refine blk_drewN ?_ _ | refine blk_drew ?_ | refine blk_alloc ?_ _)); refine blk_far ?_ NB136_137.out _; (with_reducible repeat (first | refine blk_drewN ?_ _ | refine blk_drew ?_ | refine blk_alloc ?_ _)); refine blk_far ?_ NB136_137.out _; (with_reducible repeat (first | refine blk_drewN ?_ _ | refine blk_drew ?_ | refine blk_alloc ?_ _)); exact BK136.out) Tryd.underlying33 rfl (by kernel_rfl)) rfl ?_
 exact ⟨rfx, mB HB.out⟩

end Go.Proofs.YtddnijmgipffeaaDoor.B
