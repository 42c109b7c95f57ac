-- printed by base.py (this claim's tool) over the kit's print
import Derived.Test.YtfmipdhkiahjoaaDoorB0
import Derived.Test.YtfmipdhkiahjoaaDoorSq
import Derived.Test.YtfmipdhkiahjoaaDoorJnD
import Derived.Test.YtfmipdhkiahjoaaDoorPkB
namespace Go.Proofs.YtfmipdhkiahjoaaDoor.B
open Go.RowKit Go.Proofs.YtfmipdhkiahjoaaDoorW.PrintWords Go.Proofs.YtfmipdhkiahjoaaDoorW.PrintLast Go.Proofs.YtfmipdhkiahjoaaDoorW.PrintMore
attribute [local go_sem] max2_int min2_int max_two min_two max_three min_three max_four min_four   -- for this text's walks alone
set_option linter.unusedVariables false
set_option linter.unusedSimpArgs false

/-! ### impl_ChartNew: function 8 -/
def impl_ChartNew.f (a0_0 : Int) (l0_1 : List (S37)) (l0_2 : List (S39)) : Option (List Bool × List Bool) := (impl_chartOk.f a0_0 l0_1 l0_2).bind fun t458 => (if t458 = true then ((impl_newMarks.f a0_0 l0_1 l0_2).bind fun bt459 => (some (bt459.1, bt459.2))) else (some (([] : List Bool), ([] : List Bool))))
set_option maxHeartbeats 8000000 in
set_option maxRecDepth 100000 in
theorem impl_ChartNew.calls (a0_0 : Int) (A0_1 : Option Addr) (c0_1 : Nat) (l0_1 : List (S37)) (A0_2 : Option Addr) (c0_2 : Nat) (l0_2 : List (S39)) (r1 : List Bool) (r2 : List Bool) (w : World) (hr0_1 : Kd.C k37 w A0_1 l0_1.length l0_1) (hc0_1 : l0_1.length ≤ c0_1) (hr0_2 : Kd.C k39 w A0_2 l0_2.length l0_2) (hc0_2 : l0_2.length ≤ c0_2) (h : impl_ChartNew.f a0_0 l0_1 l0_2 = some (r1, r2)) :
  Calls Tryd.prog 8 #[.agg #[.int .i64 a0_0, .slice A0_1 l0_1.length c0_1, .slice A0_2 l0_2.length c0_2]] w fun e w' => ∃ v0_ v1_ : Value, e = .returned (.agg #[v0_, v1_]) ∧ Kd.R Kd.bool 4 w' w.heap.size (fun k_ => nB k_ v1_) v0_ r1 ∧ Kd.R Kd.bool 4 w' w.heap.size (fun k_ => nB k_ v0_) v1_ r2 ∧ Below w.heap.size w w' := by
 have hu26 := Tryd.underlying26
 have hu42 := Tryd.underlying42
 have HR0_1 := z0 hr0_1
 have HC0_1 := z0 hc0_1
 clear hr0_1 hc0_1
 have HR0_2 := z0 hr0_2
 have HC0_2 := z0 hc0_2
 clear hr0_2 hc0_2
 have HB := z0 (Below.refl w.heap.size w)
 have H : ((impl_chartOk.f a0_0 l0_1 l0_2).bind fun t458 => (if t458 = true then ((impl_newMarks.f a0_0 l0_1 l0_2).bind fun bt459 => (some (bt459.1, bt459.2))) else (some (([] : List Bool), ([] : List Bool))))) = some (r1, r2) := h
 clear h
 replace H := Option.bind_eq_some_iff.mp H
 obtain ⟨t458, A20, H⟩ := H
 try dsimp only at H
 have A2 := z0 A20
 clear A20
 have HF3 := z0 H
 clear H
 go_enter Tryd.func8, Tryd.ntmps8
 go_upto_if 5 with (first | ((with_reducible refine gate_dst (N := 1) rfl ?_); refine box_event ?hg (N := 1) ?hd (cs := #[.int .i64 a0_0, .slice A0_1 l0_1.length c0_1, .slice A0_2 l0_2.length c0_2]) (t := 26) ?hr ?_; (case hd => rfl); (case hg => rfl); (case hr => first | (go_simp; done) | (go_simp; rfl)); intro gb456 hg w4 hbox hb; have n_ := az (below_step (mB HB.out) hb) <| az (hbox) <| az ((by rw [hg]; exact (below_size (mB HB.out)) : w.heap.size ≤ gb456)) <| z0 ((by rw [hg]; exact (below_size (mB HB.out)) : w.heap.size ≤ gb456)); clear HB; obtain ⟨HB, BK456, GW456, GE456⟩ := n_; clear hb hbox hg) | ((with_reducible refine gate_dst (N := 2) rfl ?_); refine box_event ?hg (N := 2) ?hd (cs := #[.slice none 0 0, .slice none 0 0]) (t := 42) ?hr ?_; (case hd => rfl); (case hg => rfl); (case hr => first | (go_simp; done) | (go_simp; rfl)); intro gb457 hg w5 hbox hb; have n_ := az (bB BK456.out hb) <| az (below_step (mB HB.out) hb) <| az (hbox) <| az ((by rw [hg]; exact (below_size (mB HB.out)) : w.heap.size ≤ gb457)) <| az ((by rw [hg]; exact (below_size (mB HB.out)) : w.heap.size ≤ gb457)) <| az ((nL hg BK456.out)) <| z0 ((nG hg BK456.out)); clear BK456 HB; obtain ⟨BK456, HB, BK457, GW457, GE457, NB456_457, NB457_456⟩ := n_; clear hb hbox hg; have hnb6 := NB456_457.out; have hnc6 := NB457_456.out; obtain ⟨hcz7_0, hcz7_1, hcz7_2, hfz7_0, hfz7_1, hfz7_2⟩ := cel3 BK456.out) | ((with_reducible refine gate_callee (f := 11) rfl ?_); refine goesL_ (some 4) rfl rfl Tryd.func11 (by kernel_rfl) rfl #[.agg #[.int .i64 a0_0, .slice A0_1 l0_1.length c0_1, .slice A0_2 l0_2.length c0_2]] rfl argx ?_; (with_reducible refine (impl_chartOk.calls a0_0 _ _ l0_1 _ _ l0_2 t458 _ ?side1 ?side2 ?side3 ?side4 A2.out).mono ?_); (case side1 => exact mC (Kd.C_below HR0_1.out HB.out)); (case side2 => exact HC0_1.out); (case side3 => exact mC (Kd.C_below HR0_2.out HB.out)); (case side4 => exact HC0_2.out); rintro e w8 ⟨rfl, hb⟩; refine ⟨_, rfl, ?_⟩; have n_ := az (bB BK456.out hb) <| az (bB BK457.out hb) <| z0 (below_step (mB HB.out) hb); clear BK456 BK457 HB; obtain ⟨BK456, BK457, HB⟩ := n_; clear hb))
 (try simp only [Act.put, List.setIfInBounds_toArray, List.set_cons_zero, List.set_cons_succ])
 have H := HF3.out
 clear HF3
 (try clear hcz7_0); (try clear hcz7_1); (try clear hcz7_2); (try clear hfz7_0); (try clear hfz7_1); (try clear hfz7_2)
 by_cases c9 : t458 = true
 ·subst c9
  have H1 : ((impl_newMarks.f a0_0 l0_1 l0_2).bind fun bt459 => (some (bt459.1, bt459.2))) = some (r1, r2) := by rw [if_pos rfl] at H; exact H
  clear H
  have H := H1
  clear H1
  replace H := Option.bind_eq_some_iff.mp H
  obtain ⟨⟨t459, t462⟩, A100, H⟩ := H
  try dsimp only at H
  have A10 := z0 A100
  clear A100
  simp only [Option.some.injEq, Prod.mk.injEq] at H
  obtain ⟨rfl, rfl⟩ := H
  have hnb11 := NB456_457.out
  have hnc11 := NB457_456.out
  obtain ⟨hcz12_0, hcz12_1, hcz12_2, hfz12_0, hfz12_1, hfz12_2⟩ := cel3 BK456.out
  go_wp2_with (first | ((with_reducible refine gate_callee (f := 21) rfl ?_); refine goesL_ (some 8) rfl rfl Tryd.func21 (by kernel_rfl) rfl #[.agg #[.int .i64 a0_0, .slice A0_1 l0_1.length c0_1, .slice A0_2 l0_2.length c0_2]] rfl argx ?_; (with_reducible refine (impl_newMarks.calls a0_0 _ _ l0_1 _ _ l0_2 t459 t462 _ ?side1 ?side2 ?side3 ?side4 A10.out).mono ?_); (case side1 => exact mC (Kd.C_below HR0_1.out HB.out)); (case side2 => exact HC0_1.out); (case side3 => exact mC (Kd.C_below HR0_2.out HB.out)); (case side4 => exact HC0_2.out); rintro e w13 ⟨v460, v463, rfl, ho0, ho1, hb⟩; refine ⟨_, rfl, ?_⟩; have n_ := az (Kd.R_lower ho0 (below_size (mB HB.out))) <| az (Kd.R_lower ho1 (below_size (mB HB.out))) <| az (bB BK456.out hb) <| az (bB BK457.out hb) <| z0 (below_step (mB HB.out) hb); clear BK456 BK457 HB; obtain ⟨HO461, HO464, BK456, BK457, HB⟩ := n_; clear hb ho0; (try clear ho1); obtain ⟨Ao14, co14, eo14⟩ := Kd.R_slice HO461.out; subst eo14; obtain ⟨hcz15_0, hcz15_1, hfz15_0, hfz15_1⟩ := cel2 BK457.out; obtain ⟨Ao16, co16, eo16⟩ := Kd.R_slice HO464.out; subst eo16))
  refine bodyPost_ret (results_cell_row rfl _ _ gb457 42 #[.slice Ao14 t459.length co14, .slice Ao16 t462.length co16] (0, 0) _ rfl (pF BK457.out) Tryd.underlying42 rfl (by kernel_rfl)) rfl ?_
  exact ⟨_, _, rfx, by (with_reducible repeat (first | apply Kd.R_alloc | apply Kd.R_drewN | apply Kd.R_drew)); exact Kd.R_mono (Kd.R_far (p := ⟨gb457, 1, none⟩) (Kd.R_far (p := ⟨gb457, 0, none⟩) (Kd.R_types HO461.out BK457.out (by decide)) (fun _ hk => hk.2) (.slice Ao14 t459.length co14)) (fun _ hk => hk.2) (.slice Ao16 t462.length co16)) (fun _ hk => hk.1), by (with_reducible repeat (first | apply Kd.R_alloc | apply Kd.R_drewN | apply Kd.R_drew)); exact Kd.R_mono (Kd.R_far (p := ⟨gb457, 1, none⟩) (Kd.R_far (p := ⟨gb457, 0, none⟩) (Kd.R_types HO464.out BK457.out (by decide)) (fun _ hk => hk.2) (.slice Ao14 t459.length co14)) (fun _ hk => hk.2) (.slice Ao16 t462.length co16)) (fun _ hk => hk.1), mB HB.out⟩
 ·replace c9 := Bool.eq_false_iff.mpr c9
  subst c9
  have H1 : (some (([] : List Bool), ([] : List Bool))) = some (r1, r2) := by rw [if_neg (show ¬ (false = true) by decide)] at H; exact H
  clear H
  have H := H1
  clear H1
  simp only [Option.some.injEq, Prod.mk.injEq] at H
  obtain ⟨rfl, rfl⟩ := H
  have hnb17 := NB457_456.out
  have hnc17 := NB456_457.out
  obtain ⟨hcz18_0, hcz18_1, hfz18_0, hfz18_1⟩ := cel2 BK457.out
  go_wp2
  refine bodyPost_ret (results_cell_row rfl _ _ gb457 42 #[.slice none 0 0, .slice none 0 0] (0, 0) _ rfl (pF BK457.out) Tryd.underlying42 rfl (by kernel_rfl)) rfl ?_
  exact ⟨_, _, rfx, by first | exact Kd.R_nil _ _ _ _ _ | exact Kd.N_nil _ _ _ _ _ | exact Kd.V_nil _ _ _ _ _ | exact Kd.Q_nil _ _ _ _ _ | exact Kd.S_nil _ _ _ _ _, by first | exact Kd.R_nil _ _ _ _ _ | exact Kd.N_nil _ _ _ _ _ | exact Kd.V_nil _ _ _ _ _ | exact Kd.Q_nil _ _ _ _ _ | exact Kd.S_nil _ _ _ _ _, mB HB.out⟩

end Go.Proofs.YtfmipdhkiahjoaaDoor.B
