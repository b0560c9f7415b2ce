/- The search for the distances, by lists: the distances so far, the queue, what falls. No program in sight. -/
import Derived.Test.YtekiemlniegddaaGreatQH2
namespace Go.Proofs.YtekiemlniegddaaGreat
set_option linter.unusedVariables false
set_option linter.unusedSimpArgs false

end Go.Proofs.YtekiemlniegddaaGreat
