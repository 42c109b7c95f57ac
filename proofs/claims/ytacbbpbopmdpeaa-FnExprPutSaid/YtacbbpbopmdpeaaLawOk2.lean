/- The law FnExactExprOk, whole. -/
import Derived.Test.YtacbbpbopmdpeaaOkCon
import Derived.Test.YtacbbpbopmdpeaaExprOk
namespace Go.Proofs.Ytacbbpbopmdpeaa.B
theorem okCon : OkCon := fun e A c w hC hc => exprOk_any e A c w hC hc
end Go.Proofs.Ytacbbpbopmdpeaa.B
