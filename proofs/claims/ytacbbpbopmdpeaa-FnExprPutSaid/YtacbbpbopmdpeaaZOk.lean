/- impl.ExprOk, in the print's form. -/
import Derived.Test.YtacbbpbopmdpeaaExprOk
import Derived.Test.YtacbbpbopmdpeaaOkLaw
namespace Go.Proofs.Ytacbbpbopmdpeaa.B
open Go.RowKit Go.Proofs.YtacbbpbopmdpeaaW.PrintWords Go.Proofs.YtacbbpbopmdpeaaW.PrintLast Go.Proofs.YtacbbpbopmdpeaaW.PrintMore
set_option linter.unusedVariables false

def impl_ExprOk.f (a0_0 : Int) (a0_1 : Int) (a0_2 : Int) (a0_3 : Int) (l0_4 : List (S27)) : Option Bool :=
 some (formS 6 ⟨a0_0, a0_1, ⟨a0_2, a0_3⟩, l0_4⟩ && decide (manyS 6 ⟨a0_0, a0_1, ⟨a0_2, a0_3⟩, l0_4⟩ ≤ 14))
theorem impl_ExprOk.calls (a0_0 : Int) (a0_1 : Int) (a0_2 : Int) (a0_3 : Int) (A0_4 : Option Addr) (c0_4 : Nat) (l0_4 : List (S27)) (r : Bool) (w : World) (hr0_4 : Kd.C k27 w A0_4 l0_4.length l0_4) (hc0_4 : l0_4.length ≤ c0_4) (h : impl_ExprOk.f a0_0 a0_1 a0_2 a0_3 l0_4 = some r) :
  Calls Try.prog 13 #[.agg #[.int .i64 a0_0, .int .i64 a0_1, .int .i64 a0_2, .int .i64 a0_3, .slice A0_4 l0_4.length c0_4]] w fun e w' => e = .returned (.bool r) ∧ Below w.heap.size w w' := by
 obtain rfl := Option.some.inj h
 rw [← okL_eq]
 exact exprOk_any ⟨a0_0, a0_1, ⟨a0_2, a0_3⟩, l0_4⟩ A0_4 c0_4 w hr0_4 hc0_4
end Go.Proofs.Ytacbbpbopmdpeaa.B
