-- printed by base.py (this claim's tool) over the kit's print
import Derived.Test.YtddnijmgipffeaaDoorB0
import Derived.Test.YtddnijmgipffeaaDoorSq
namespace Go.Proofs.YtddnijmgipffeaaDoor.B
open Go.RowKit Go.Proofs.YtddnijmgipffeaaDoorW.PrintWords Go.Proofs.YtddnijmgipffeaaDoorW.PrintLast Go.Proofs.YtddnijmgipffeaaDoorW.PrintMore
attribute [local go_sem] max2_int min2_int max_two min_two max_three min_three max_four min_four   -- for this text's walks alone
set_option linter.unusedVariables false
set_option linter.unusedSimpArgs false

/-! ### impl_AddrOk: function 24 -/
def impl_AddrOk.f (a0_0 : Int) (a0_1 : Int) : Option (Bool) := if a0_0 ≥ 1 then (if a0_0 ≤ 3 then (if a0_1 ≥ 0 then (some (decide (a0_1 < 6))) else (some false)) else (some false)) else (some false)
set_option maxHeartbeats 8000000 in
set_option maxRecDepth 100000 in
theorem impl_AddrOk.calls (a0_0 : Int) (a0_1 : Int) (r : Bool) (w : World) (h : impl_AddrOk.f a0_0 a0_1 = some r) :
  Calls Tryd.prog 24 #[.agg #[.int .i64 a0_0, .int .i64 a0_1]] w fun e w' => e = .returned (.bool r) ∧ Below w.heap.size w w' := by
 have hu31 := Tryd.underlying31
 have HB := z0 (Below.refl w.heap.size w)
 have H : (if a0_0 ≥ 1 then (if a0_0 ≤ 3 then (if a0_1 ≥ 0 then (some (decide (a0_1 < 6))) else (some false)) else (some false)) else (some false)) = some r := h
 clear h
 have HF2 := z0 H
 clear H
 go_enter Tryd.func24, Tryd.ntmps24
 go_upto_region 1 with (first | ((with_reducible refine gate_dst (N := 1) rfl ?_); refine box_event ?hg (N := 1) ?hd (cs := #[.int .i64 a0_0, .int .i64 a0_1]) (t := 31) ?hr ?_; (case hd => rfl); (case hg => rfl); (case hr => first | (go_simp; done) | (go_simp; rfl)); intro gb168 hg w3 hbox hb; have n_ := az (below_step (mB HB.out) hb) <| az (hbox) <| az ((by rw [hg]; exact (below_size (mB HB.out)) : w.heap.size ≤ gb168)) <| z0 ((by rw [hg]; exact (below_size (mB HB.out)) : w.heap.size ≤ gb168)); clear HB; obtain ⟨HB, BK168, GW168, GE168⟩ := n_; clear hb hbox hg))
 (try simp only [Act.put, List.setIfInBounds_toArray, List.set_cons_zero, List.set_cons_succ])
 have H := HF2.out
 clear HF2
 try clear c2
 by_cases c4 : a0_0 ≥ 1
 ·rw [if_pos c4] at H
  have c4b0 : decide (1 ≤ a0_0) = true := decide_eq_true c4
  clear c4
  by_cases c5 : a0_0 ≤ 3
  ·rw [if_pos c5] at H
   have c5b0 : decide (a0_0 ≤ 3) = true := decide_eq_true c5
   clear c5
   by_cases c6 : a0_1 ≥ 0
   ·rw [if_pos c6] at H
    have c6b0 : decide (0 ≤ a0_1) = true := decide_eq_true c6
    clear c6
    obtain rfl := Option.some.inj H
    obtain ⟨hcz7_0, hcz7_1, hfz7_0, hfz7_1⟩ := cel2 BK168.out
    go_wp2
    go_ret
    exact ⟨rfx, mB HB.out⟩
   ·rw [if_neg c6] at H
    have c6b0 : decide (0 ≤ a0_1) = false := decide_eq_false c6
    clear c6
    obtain rfl := Option.some.inj H
    obtain ⟨hcz8_0, hcz8_1, hfz8_0, hfz8_1⟩ := cel2 BK168.out
    go_wp2
    go_ret
    exact ⟨rfx, mB HB.out⟩
  ·rw [if_neg c5] at H
   have c5b0 : decide (a0_0 ≤ 3) = false := decide_eq_false c5
   clear c5
   obtain rfl := Option.some.inj H
   obtain ⟨hcz9_0, hcz9_1, hfz9_0, hfz9_1⟩ := cel2 BK168.out
   go_wp2
   go_ret
   exact ⟨rfx, mB HB.out⟩
 ·rw [if_neg c4] at H
  have c4b0 : decide (1 ≤ a0_0) = false := decide_eq_false c4
  clear c4
  obtain rfl := Option.some.inj H
  obtain ⟨hcz10_0, hcz10_1, hfz10_0, hfz10_1⟩ := cel2 BK168.out
  go_wp2
  go_ret
  exact ⟨rfx, mB HB.out⟩

end Go.Proofs.YtddnijmgipffeaaDoor.B
