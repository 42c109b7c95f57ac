-- words of the kit's print: those that this claim's texts name (by prune.py, a program of this claim)
import Derived.Test.YtddnijmgipffeaaWInv
import Derived.Test.YtddnijmgipffeaaWFootNe
namespace Go.Proofs.YtddnijmgipffeaaW.PrintWords
open Go.RowKit
end Go.Proofs.YtddnijmgipffeaaW.PrintWords
namespace Go.Proofs.YtddnijmgipffeaaW.PrintLast
section
variable {ops : Array Oper} {a : Act} {o og : Oper} {g : Nat} {t : Tmp} {u : Bool}
end
end Go.Proofs.YtddnijmgipffeaaW.PrintLast
