/- The contracts of Zip: the program's and the specification's. -/
import Derived.Test.YtbfigbpjoaccdaaGreatQC7
namespace Go.Proofs.YtbfigbpjoaccdaaGreat
open Go Go.RowKit Go.Shelf
set_option linter.unusedVariables false
set_option linter.unusedSimpArgs false

end Go.Proofs.YtbfigbpjoaccdaaGreat
