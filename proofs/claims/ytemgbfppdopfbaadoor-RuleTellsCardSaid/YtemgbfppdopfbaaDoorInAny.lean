/- subnet's In, of whatever address and subnet; the law's own question. -/
import Derived.Test.YtemgbfppdopfbaaDoorIn
import Derived.Test.YtemgbfppdopfbaaDoorMaskLaw
import Derived.Test.YtemgbfppdopfbaaDoorSameBytes
namespace Go.Proofs.YtemgbfppdopfbaaDoor
open Go.RowKit
set_option linter.unusedVariables false
set_option linter.unusedSimpArgs false

instance (f s sc : Int) (n : Nat) : Decidable (SOk f s sc n) := decidable_of_iff _ (SOk_iff f s sc n).symm
/-- is it in the subnet? -/
def inB (f s sc : Int) (l1 l2 : List UInt8) : Bool := decide (SOk f s sc l2.length) && (decide (l1.length = l2.length) && decide (maskL l1 s = maskL l2 s))

theorem inB_iff {f s sc : Int} {l1 l2 : List UInt8} : inB f s sc l1 l2 = true ↔ SOk f s sc l2.length ∧ l1.length = l2.length ∧ maskL l1 s = maskL l2 s := by
  unfold inB; simp

/-! a subnet that came in -/
abbrev subnetR : Rep (Int × Int × Int × List UInt8 × Unit) := pairR intR (pairR intR (pairR intR (pairR (sliceR u8R) unitR)))
theorem subnet_of {w : World} {B : Nat} {x : Int × Int × Int × List UInt8 × Unit} {cs : Array Value} (h : subnetR.rel w B x cs.toList) :
    ∃ f s sc A n c l, Value.agg cs = subnetV f s sc A n c ∧ cs = #[.int .i64 f, .int .i64 s, .int .i64 sc, .slice A n c] ∧ I64 f ∧ I64 s ∧ I64 sc ∧ Rd u8R w B A n c l := by
  obtain ⟨_, _, e0, ⟨rfl, h1⟩, _, _, rfl, ⟨rfl, h2⟩, _, _, rfl, ⟨rfl, h3⟩, _, _, rfl, ⟨A, n, c, rfl, h4⟩, rfl⟩ := h
  have : cs = #[.int .i64 x.1, .int .i64 x.2.1, .int .i64 x.2.2.1, .slice A n c] := by cases cs; simp_all
  exact ⟨_, _, _, A, n, c, _, by rw [this], this, h1, h2, h3, h4⟩
end Go.Proofs.YtemgbfppdopfbaaDoor
