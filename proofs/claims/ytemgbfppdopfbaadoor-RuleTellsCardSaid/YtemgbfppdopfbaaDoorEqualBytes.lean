/- slices.Equal of bytes. -/
import Derived.Test.YtemgbfppdopfbaaDoorSame
namespace Go.Proofs.YtemgbfppdopfbaaDoor
open Go.RowKit
set_option linter.unusedVariables false
set_option linter.unusedSimpArgs false

end Go.Proofs.YtemgbfppdopfbaaDoor
