/- subnet's functions: size, check, Mask, In. -/
import Derived.Test.YtemgbfppdopfbaaDoorMask
import Derived.Test.YtemgbfppdopfbaaDoorEqualBytes
namespace Go.Proofs.YtemgbfppdopfbaaDoor
open Go.RowKit
set_option linter.unusedVariables false
set_option linter.unusedSimpArgs false

@[reducible] def subnetV (f s sc : Int) (A : Option Addr) (n c : Nat) : Value := .agg #[.int .i64 f, .int .i64 s, .int .i64 sc, .slice A n c]
/-- a subnet without a fault -/
structure SOk (f s sc : Int) (n : Nat) : Prop where
  fam : (f = 1 ∧ n = 4) ∨ (f = 2 ∧ n = 16)
  s0 : 0 ≤ s
  s1 : s ≤ 8 * (n : Int)
  sc0 : 0 ≤ sc
  sc1 : sc ≤ 8 * (n : Int)
theorem SOk_iff (f s sc : Int) (n : Nat) : SOk f s sc n ↔ (((f = 1 ∧ n = 4) ∨ (f = 2 ∧ n = 16)) ∧ 0 ≤ s ∧ s ≤ 8 * (n : Int) ∧ 0 ≤ sc ∧ sc ≤ 8 * (n : Int)) := ⟨fun ⟨a, b, c, d, e⟩ => ⟨a, b, c, d, e⟩, fun ⟨a, b, c, d, e⟩ => ⟨a, b, c, d, e⟩⟩
/-- what is wrong with it -/
def errS (f s sc : Int) (n : Nat) : Int :=
  if f = 1 then (if n = 4 then (if 0 ≤ s ∧ s ≤ 32 ∧ 0 ≤ sc ∧ sc ≤ 32 then 0 else 6) else 2)
  else if f = 2 then (if n = 16 then (if 0 ≤ s ∧ s ≤ 128 ∧ 0 ≤ sc ∧ sc ≤ 128 then 0 else 6) else 2) else 6

/-! Mask -/
end Go.Proofs.YtemgbfppdopfbaaDoor
