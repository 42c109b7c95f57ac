-- words of the kit's print: those that this claim's texts name (by prune.py, a program of this claim)
import Derived.Test.YtiofkhfmdophpaaWLast
import Derived.Test.YtiofkhfmdophpaaWWords
/-! ### 50. A region's order in a table, made once a region: each step asks the table (numbers alone), not the operations -/
namespace Go.Proofs.YtiofkhfmdophpaaW.PrintLast
open Go.Proofs.YtiofkhfmdophpaaW.PrintWords (Aside0)
section
variable {md : Region.Mode} {ops : Array Oper} {T : Bool × List (List Nat × List Nat)} {l l' li lj lk : Array Bool} {ds : List Nat} {i j k : Nat}
end
end Go.Proofs.YtiofkhfmdophpaaW.PrintLast
