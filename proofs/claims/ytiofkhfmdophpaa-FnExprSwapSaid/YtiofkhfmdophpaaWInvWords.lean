-- words of the kit's print: those that this claim's texts name (by prune.py, a program of this claim)
import Derived.Test.YtiofkhfmdophpaaWInv
import Derived.Test.YtiofkhfmdophpaaWFootNe
namespace Go.Proofs.YtiofkhfmdophpaaW.PrintWords
open Go.RowKit
end Go.Proofs.YtiofkhfmdophpaaW.PrintWords
namespace Go.Proofs.YtiofkhfmdophpaaW.PrintLast
section
variable {ops : Array Oper} {a : Act} {o og : Oper} {g : Nat} {t : Tmp} {u : Bool}
end
end Go.Proofs.YtiofkhfmdophpaaW.PrintLast
