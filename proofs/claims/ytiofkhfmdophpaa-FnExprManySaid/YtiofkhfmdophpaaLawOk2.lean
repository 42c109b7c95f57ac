/- The law FnExactExprOk, whole. -/
import Derived.Test.YtiofkhfmdophpaaOkCon
import Derived.Test.YtiofkhfmdophpaaExprOk
namespace Go.Proofs.Ytiofkhfmdophpaa.B
theorem okCon : OkCon := fun e A c w hC hc => exprOk_any e A c w hC hc
end Go.Proofs.Ytiofkhfmdophpaa.B
