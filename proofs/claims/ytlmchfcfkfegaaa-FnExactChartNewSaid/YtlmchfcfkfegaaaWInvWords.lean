-- words of the kit's print: those that this claim's texts name (by prune.py, a program of this claim)
import Derived.Test.YtlmchfcfkfegaaaWInv
import Derived.Test.YtlmchfcfkfegaaaWFootNe
namespace Go.Proofs.YtlmchfcfkfegaaaW.PrintWords
open Go.RowKit
end Go.Proofs.YtlmchfcfkfegaaaW.PrintWords
namespace Go.Proofs.YtlmchfcfkfegaaaW.PrintLast
section
variable {ops : Array Oper} {a : Act} {o og : Oper} {g : Nat} {t : Tmp} {u : Bool}
end
end Go.Proofs.YtlmchfcfkfegaaaW.PrintLast
