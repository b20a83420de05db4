/- The document's answers of records: two bytes, RecordFault, RecordAt. -/
import Derived.Test.YtkdfiedemhjjjaaK5
import Derived.Test.YtkdfiedemhjjjaaK11
namespace Go.Proofs.Ytkdfiedemhjjjaa
open Go.RowKit
set_option linter.unusedVariables false
set_option linter.unusedSimpArgs false

end Go.Proofs.Ytkdfiedemhjjjaa
