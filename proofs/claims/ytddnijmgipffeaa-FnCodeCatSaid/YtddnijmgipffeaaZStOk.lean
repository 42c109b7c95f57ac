/- impl.StmtsOk, in the print's form. -/
import Derived.Test.YtddnijmgipffeaaCntAll
import Derived.Test.YtddnijmgipffeaaZOk
namespace Go.Proofs.Ytddnijmgipffeaa.B
open Go.RowKit Go.Shelf Go.Proofs.YtddnijmgipffeaaW.PrintWords Go.Proofs.YtddnijmgipffeaaW.PrintLast Go.Proofs.YtddnijmgipffeaaW.PrintMore
set_option linter.unusedVariables false

def impl_StmtsOk.f (l0 : List S69) : Option Bool := some (countL 4 l0 0).1
theorem impl_StmtsOk.calls (A0 : Option Addr) (c0 : Nat) (l0 : List S69) (r : Bool) (w : World) (hr0 : Kd.C k69 w A0 l0.length l0) (hc0 : l0.length ≤ c0) (h : impl_StmtsOk.f l0 = some r) :
  Calls Try.prog 36 #[.slice A0 l0.length c0] w fun e w' => e = .returned (.bool r) ∧ Below w.heap.size w w' := by
 obtain rfl := Option.some.inj h
 exact stmtsOk_of (fun e A c w hC hc => exprOk_any e A c w hC hc) A0 c0 l0 w hr0 hc0
end Go.Proofs.Ytddnijmgipffeaa.B
