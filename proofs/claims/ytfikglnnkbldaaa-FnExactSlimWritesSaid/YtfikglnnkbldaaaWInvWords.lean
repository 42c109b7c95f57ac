-- words of the kit's print: those that this claim's texts name (by prune.py, a program of this claim)
import Derived.Test.YtfikglnnkbldaaaWInv
import Derived.Test.YtfikglnnkbldaaaWFootNe
namespace Go.Proofs.YtfikglnnkbldaaaW.PrintWords
open Go.RowKit
end Go.Proofs.YtfikglnnkbldaaaW.PrintWords
namespace Go.Proofs.YtfikglnnkbldaaaW.PrintLast
section
variable {ops : Array Oper} {a : Act} {o og : Oper} {g : Nat} {t : Tmp} {u : Bool}
end
end Go.Proofs.YtfikglnnkbldaaaW.PrintLast
