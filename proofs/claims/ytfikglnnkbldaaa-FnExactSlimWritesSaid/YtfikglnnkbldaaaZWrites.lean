/- impl.SlimWrites, in the print's form. -/
import Derived.Test.YtfikglnnkbldaaaWr
import Derived.Test.YtfikglnnkbldaaaZOk
namespace Go.Proofs.Ytfikglnnkbldaaa.B
open Go.RowKit Go.Shelf Go.Proofs.YtfikglnnkbldaaaW.PrintWords Go.Proofs.YtfikglnnkbldaaaW.PrintLast Go.Proofs.YtfikglnnkbldaaaW.PrintMore
set_option linter.unusedVariables false
def impl_SlimWrites.f (l0 : List S64) (a1_0 : Int) (a1_1 : Int) : Option Bool := some ((countL 4 l0 0).1 && l0.any (wrSt a1_0 a1_1))
theorem impl_SlimWrites.calls (A0 : Option Addr) (c0 : Nat) (l0 : List S64) (a1_0 : Int) (a1_1 : Int) (r : Bool) (w : World) (hr0 : Kd.C k64 w A0 l0.length l0) (hc0 : l0.length ≤ c0) (h : impl_SlimWrites.f l0 a1_0 a1_1 = some r) :
    Calls Try.prog 16 #[.slice A0 l0.length c0, .agg #[.int .i64 a1_0, .int .i64 a1_1]] w fun e w' => e = .returned (.bool r) ∧ Below w.heap.size w w' := by
  obtain rfl := Option.some.inj h
  exact slimWr_of (fun e A c w hC hc => exprOk_any e A c w hC hc) A0 c0 l0 a1_0 a1_1 w hr0 hc0
end Go.Proofs.Ytfikglnnkbldaaa.B
