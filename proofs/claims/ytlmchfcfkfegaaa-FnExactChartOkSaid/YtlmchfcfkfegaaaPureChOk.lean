/- The pure law of ChartOk. -/
import Derived.Test.YtlmchfcfkfegaaaChOkSpec
import Derived.Test.YtlmchfcfkfegaaaOpensCh
import Derived.Test.YtlmchfcfkfegaaaF4
namespace Go.Proofs.Ytlmchfcfkfegaaa.B
open Go.RowKit Go.Proofs.YtlmchfcfkfegaaaW.PrintWords Go.Proofs.YtlmchfcfkfegaaaW.PrintLast Go.Proofs.YtlmchfcfkfegaaaW.PrintMore
set_option linter.unusedVariables false
theorem one_part {f : Nat → Option Int} {body : Nat → Option Bool} {n : Nat} (hf : Ends f (szV n 1048576)) (hb : n ≤ 1048576 → Ends body true) :
  Ends (fun k => (f k).bind fun t => if t < 0 then some true else body k) true := by
 refine hf.bind (g := fun k t => if t < 0 then some true else body k) ?_
 by_cases h : szV n 1048576 < 0
 ·exact Ends.const fun k => by rw [if_pos h]
 ·obtain ⟨hL, hn, _⟩ := szV_left ⟨by omega, by omega⟩ h
  exact (hb (by omega)).of fun k => by rw [if_neg h]
theorem pure_ChartOk (s : Int) (a : List LTr) (b : List LAc) (h1 : a.length ≤ 9223372036854775807) (h2 : ∀ x ∈ a, trOk x) (h3 : b.length ≤ 9223372036854775807) :
  ∃ k, laws_FnExactChartOk.f k s a b = some true := by
 have : Ends (fun k => laws_FnExactChartOk.f k s a b) true := by
  refine (one_part (szCh s a b h1 h2 h3 1048576 ⟨by omega, by omega⟩) (fun hn => ?_)).of fun k => by rw [laws_FnExactChartOk.f]
  have ht := toCh s a b hn
  have ho := chTo_ok a b hn
  refine ht.bind ((chOk_is s _ _ ho).bind (ht.bind ?_))
  refine Ends.of (g := fun k => (laws_toChart.f k s a b).bind fun x => (laws_eqChart.f k s (a.map trTo) (b.map acTo) x.1 x.2.1 x.2.2).bind fun t => if t = true then some true else some false) ?_ (fun k => by rw [impl_ChartOk.f, impl_chartOk.f, Option.bind_some, Option.bind_some, if_neg (by simp)])
  exact ht.bind ((eqCh s _ _ ho).bind (Ends.const fun k => rfl))
 obtain ⟨K, hK⟩ := this
 exact ⟨K, hK K (Nat.le_refl _)⟩
theorem law_ChartOk (x : S25) (A1 : Option Addr) (c1 : Nat) (A2 : Option Addr) (c2 : Nat) (W : World) (g1 : k151.C W A1 x.f1.length x.f1) (l1 : x.f1.length ≤ c1) (g2 : k155.C W A2 x.f2.length x.f2) (l2 : x.f2.length ≤ c2) :
  Calls Try.prog 4 #[.agg #[.int .i64 x.f0, .slice A1 x.f1.length c1, .slice A2 x.f2.length c2]] W fun e W' => e = .returned (.bool true) ∧ Below W.heap.size W W' := by
 obtain ⟨p1, p2⟩ := trsOk_of g1
 obtain ⟨k, hk⟩ := pure_ChartOk x.f0 x.f1 x.f2 p1 p2 (acsOk_of g2)
 exact laws_FnExactChartOk.calls k x.f0 A1 c1 x.f1 A2 c2 x.f2 true W g1 l1 g2 l2 hk
end Go.Proofs.Ytlmchfcfkfegaaa.B
