/- impl.StmtsMany, in the print's form. -/
import Derived.Test.YtbckpgipehjgmaaGreatCntAll
import Derived.Test.YtbckpgipehjgmaaGreatZOk
namespace Go.Proofs.YtbckpgipehjgmaaGreat.B
open Go.RowKit Go.Shelf Go.Proofs.YtbckpgipehjgmaaGreatW.PrintWords Go.Proofs.YtbckpgipehjgmaaGreatW.PrintLast Go.Proofs.YtbckpgipehjgmaaGreatW.PrintMore
set_option linter.unusedVariables false

def impl_StmtsMany.f (l0 : List S33) : Option Int := some (cntV (countL 4 l0 0))
theorem impl_StmtsMany.calls (A0 : Option Addr) (c0 : Nat) (l0 : List S33) (r : Int) (w : World) (hr0 : Kd.C k33 w A0 l0.length l0) (hc0 : l0.length ≤ c0) (h : impl_StmtsMany.f l0 = some r) :
  Calls Tryz.prog 5 #[.slice A0 l0.length c0] w fun e w' => e = .returned (.int .i64 r) ∧ Below w.heap.size w w' := by
 obtain rfl := Option.some.inj h
 exact stmtsMany_of (fun e A c w hC hc => exprOk_any e A c w hC hc) A0 c0 l0 w hr0 hc0
end Go.Proofs.YtbckpgipehjgmaaGreat.B
