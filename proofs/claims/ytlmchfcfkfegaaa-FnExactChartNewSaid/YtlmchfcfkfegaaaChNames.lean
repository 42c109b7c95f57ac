/- Short names. -/
import Derived.Test.YtlmchfcfkfegaaaB0
namespace Go.Proofs.Ytlmchfcfkfegaaa.B
abbrev ITr := S52
abbrev IAc := S92
end Go.Proofs.Ytlmchfcfkfegaaa.B
