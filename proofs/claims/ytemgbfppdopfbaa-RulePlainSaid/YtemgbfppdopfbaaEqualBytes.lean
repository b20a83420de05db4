/- slices.Equal of bytes. -/
import Derived.Test.YtemgbfppdopfbaaSame
namespace Go.Proofs.Ytemgbfppdopfbaa
open Go.RowKit
set_option linter.unusedVariables false
set_option linter.unusedSimpArgs false

end Go.Proofs.Ytemgbfppdopfbaa
