-- words of the kit's print: those that this claim's texts name (by prune.py, a program of this claim)
import Derived.Test.YtbckpgipehjgmaaGreatWInv
import Derived.Test.YtbckpgipehjgmaaGreatWFootNe
namespace Go.Proofs.YtbckpgipehjgmaaGreatW.PrintWords
open Go.RowKit
end Go.Proofs.YtbckpgipehjgmaaGreatW.PrintWords
namespace Go.Proofs.YtbckpgipehjgmaaGreatW.PrintLast
section
variable {ops : Array Oper} {a : Act} {o og : Oper} {g : Nat} {t : Tmp} {u : Bool}
end
end Go.Proofs.YtbckpgipehjgmaaGreatW.PrintLast
