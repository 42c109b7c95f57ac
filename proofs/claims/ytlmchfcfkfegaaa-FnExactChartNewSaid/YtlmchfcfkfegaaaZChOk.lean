/- impl.chartOk, in the print's form. -/
import Derived.Test.YtlmchfcfkfegaaaChOk
import Derived.Test.YtlmchfcfkfegaaaZOk
namespace Go.Proofs.Ytlmchfcfkfegaaa.B
open Go.RowKit Go.Shelf Go.Proofs.YtlmchfcfkfegaaaW.PrintWords Go.Proofs.YtlmchfcfkfegaaaW.PrintLast Go.Proofs.YtlmchfcfkfegaaaW.PrintMore
set_option linter.unusedVariables false
def impl_chartOk.f (a0_0 : Int) (l0_1 : List S52) (l0_2 : List S92) : Option Bool := some (chOkL a0_0 l0_1 l0_2)
theorem impl_chartOk.calls (a0_0 : Int) (A0_1 : Option Addr) (c0_1 : Nat) (l0_1 : List S52) (A0_2 : Option Addr) (c0_2 : Nat) (l0_2 : List S92) (r : Bool) (w : World) (hr0_1 : Kd.C k52 w A0_1 l0_1.length l0_1) (hc0_1 : l0_1.length ≤ c0_1) (hr0_2 : Kd.C k92 w A0_2 l0_2.length l0_2) (hc0_2 : l0_2.length ≤ c0_2) (h : impl_chartOk.f a0_0 l0_1 l0_2 = some r) :
  Calls Try.prog 47 #[.agg #[.int .i64 a0_0, .slice A0_1 l0_1.length c0_1, .slice A0_2 l0_2.length c0_2]] w fun e w' => e = .returned (.bool r) ∧ Below w.heap.size w w' := by
 obtain rfl := Option.some.inj h
 exact chOk_of (fun e A c w hC hc => exprOk_any e A c w hC hc) a0_0 l0_1 l0_2 A0_1 c0_1 A0_2 c0_2 w hr0_1 hc0_1 hr0_2 hc0_2
end Go.Proofs.Ytlmchfcfkfegaaa.B
