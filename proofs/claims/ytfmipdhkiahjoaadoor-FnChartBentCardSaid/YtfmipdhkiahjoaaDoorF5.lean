-- printed by base.py (this claim's tool) over the kit's print
import Derived.Test.YtfmipdhkiahjoaaDoorB0
import Derived.Test.YtfmipdhkiahjoaaDoorSq
import Derived.Test.YtfmipdhkiahjoaaDoorJnD
namespace Go.Proofs.YtfmipdhkiahjoaaDoor.B
open Go.RowKit Go.Proofs.YtfmipdhkiahjoaaDoorW.PrintWords Go.Proofs.YtfmipdhkiahjoaaDoorW.PrintLast Go.Proofs.YtfmipdhkiahjoaaDoorW.PrintMore
attribute [local go_sem] max2_int min2_int max_two min_two max_three min_three max_four min_four   -- for this text's walks alone
set_option linter.unusedVariables false
set_option linter.unusedSimpArgs false

/-! ### impl_ChartOk: function 5 -/
def impl_ChartOk.f (a0_0 : Int) (l0_1 : List (S37)) (l0_2 : List (S39)) : Option (Bool) := (impl_chartOk.f a0_0 l0_1 l0_2).bind fun t408 => (some t408)
set_option maxHeartbeats 8000000 in
set_option maxRecDepth 100000 in
theorem impl_ChartOk.calls (a0_0 : Int) (A0_1 : Option Addr) (c0_1 : Nat) (l0_1 : List (S37)) (A0_2 : Option Addr) (c0_2 : Nat) (l0_2 : List (S39)) (r : Bool) (w : World) (hr0_1 : Kd.C k37 w A0_1 l0_1.length l0_1) (hc0_1 : l0_1.length ≤ c0_1) (hr0_2 : Kd.C k39 w A0_2 l0_2.length l0_2) (hc0_2 : l0_2.length ≤ c0_2) (h : impl_ChartOk.f a0_0 l0_1 l0_2 = some r) :
  Calls Tryd.prog 5 #[.agg #[.int .i64 a0_0, .slice A0_1 l0_1.length c0_1, .slice A0_2 l0_2.length c0_2]] w fun e w' => e = .returned (.bool r) ∧ Below w.heap.size w w' := by
 have hu26 := Tryd.underlying26
 have HR0_1 := z0 hr0_1
 have HC0_1 := z0 hc0_1
 clear hr0_1 hc0_1
 have HR0_2 := z0 hr0_2
 have HC0_2 := z0 hc0_2
 clear hr0_2 hc0_2
 have HB := z0 (Below.refl w.heap.size w)
 have H : ((impl_chartOk.f a0_0 l0_1 l0_2).bind fun t408 => (some t408)) = some r := h
 clear h
 replace H := Option.bind_eq_some_iff.mp H
 obtain ⟨t408, A20, H⟩ := H
 try dsimp only at H
 have A2 := z0 A20
 clear A20
 obtain rfl := Option.some.inj H
 go_enter Tryd.func5, Tryd.ntmps5
 go_wp2_with (first | ((with_reducible refine gate_dst (N := 1) rfl ?_); refine box_event ?hg (N := 1) ?hd (cs := #[.int .i64 a0_0, .slice A0_1 l0_1.length c0_1, .slice A0_2 l0_2.length c0_2]) (t := 26) ?hr ?_; (case hd => rfl); (case hg => rfl); (case hr => first | (go_simp; done) | (go_simp; rfl)); intro gb407 hg w3 hbox hb; have n_ := az (below_step (mB HB.out) hb) <| az (hbox) <| az ((by rw [hg]; exact (below_size (mB HB.out)) : w.heap.size ≤ gb407)) <| z0 ((by rw [hg]; exact (below_size (mB HB.out)) : w.heap.size ≤ gb407)); clear HB; obtain ⟨HB, BK407, GW407, GE407⟩ := n_; clear hb hbox hg; obtain ⟨hcz4_0, hcz4_1, hcz4_2, hfz4_0, hfz4_1, hfz4_2⟩ := cel3 BK407.out) | ((with_reducible refine gate_callee (f := 11) rfl ?_); refine goesL_ (some 4) rfl rfl Tryd.func11 (by kernel_rfl) rfl #[.agg #[.int .i64 a0_0, .slice A0_1 l0_1.length c0_1, .slice A0_2 l0_2.length c0_2]] rfl argx ?_; (with_reducible refine (impl_chartOk.calls a0_0 _ _ l0_1 _ _ l0_2 t408 _ ?side1 ?side2 ?side3 ?side4 A2.out).mono ?_); (case side1 => exact mC (Kd.C_below HR0_1.out HB.out)); (case side2 => exact HC0_1.out); (case side3 => exact mC (Kd.C_below HR0_2.out HB.out)); (case side4 => exact HC0_2.out); rintro e w5 ⟨rfl, hb⟩; refine ⟨_, rfl, ?_⟩; have n_ := az (bB BK407.out hb) <| z0 (below_step (mB HB.out) hb); clear BK407 HB; obtain ⟨BK407, HB⟩ := n_; clear hb))
 go_ret
 exact ⟨rfx, mB HB.out⟩

end Go.Proofs.YtfmipdhkiahjoaaDoor.B
