/- subnet's In. -/
import Derived.Test.YtemgbfppdopfbaaSubnet
import Derived.Test.YtemgbfppdopfbaaQuietExt
namespace Go.Proofs.Ytemgbfppdopfbaa
open Go.RowKit
set_option linter.unusedVariables false
set_option linter.unusedSimpArgs false

end Go.Proofs.Ytemgbfppdopfbaa
