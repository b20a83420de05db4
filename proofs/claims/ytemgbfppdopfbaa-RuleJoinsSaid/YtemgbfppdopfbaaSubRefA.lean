/- The document's answers of subnets: BitOf, Alike. -/
import Derived.Test.YtemgbfppdopfbaaInAny
import Derived.Test.YtemgbfppdopfbaaApp
import Derived.Test.YtemgbfppdopfbaaAppS
namespace Go.Proofs.Ytemgbfppdopfbaa
open Go.RowKit
set_option linter.unusedVariables false
set_option linter.unusedSimpArgs false

/-- one bit of an address -/
def bitL (l : List UInt8) (i : Nat) : Nat := (l.getD (i / 8) 0).toNat / 2 ^ (7 - i % 8) % 2
theorem bitL_le (l : List UInt8) (i : Nat) : bitL l i ≤ 1 := by unfold bitL; omega

end Go.Proofs.Ytemgbfppdopfbaa
