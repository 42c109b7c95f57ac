-- words of the kit's print: those that this claim's texts name (by prune.py, a program of this claim)
import Derived.Test.YtendbgedpjcocaaGreatDoorWInv
import Derived.Test.YtendbgedpjcocaaGreatDoorWFootNe
namespace Go.Proofs.YtendbgedpjcocaaGreatDoorW.PrintWords
open Go.RowKit
end Go.Proofs.YtendbgedpjcocaaGreatDoorW.PrintWords
namespace Go.Proofs.YtendbgedpjcocaaGreatDoorW.PrintLast
section
variable {ops : Array Oper} {a : Act} {o og : Oper} {g : Nat} {t : Tmp} {u : Bool}
end
end Go.Proofs.YtendbgedpjcocaaGreatDoorW.PrintLast
