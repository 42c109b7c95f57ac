-- words of the kit's print: those that this claim's texts name (by prune.py, a program of this claim)
import Derived.Test.YtfmipdhkiahjoaaDoorWInv
import Derived.Test.YtfmipdhkiahjoaaDoorWFootNe
namespace Go.Proofs.YtfmipdhkiahjoaaDoorW.PrintWords
open Go.RowKit
end Go.Proofs.YtfmipdhkiahjoaaDoorW.PrintWords
namespace Go.Proofs.YtfmipdhkiahjoaaDoorW.PrintLast
section
variable {ops : Array Oper} {a : Act} {o og : Oper} {g : Nat} {t : Tmp} {u : Bool}
end
end Go.Proofs.YtfmipdhkiahjoaaDoorW.PrintLast
