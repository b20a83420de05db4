/- subnet's In. -/
import Derived.Test.YtemgbfppdopfbaaDoorSubnet
import Derived.Test.YtemgbfppdopfbaaDoorQuietExt
namespace Go.Proofs.YtemgbfppdopfbaaDoor
open Go.RowKit
set_option linter.unusedVariables false
set_option linter.unusedSimpArgs false

end Go.Proofs.YtemgbfppdopfbaaDoor
