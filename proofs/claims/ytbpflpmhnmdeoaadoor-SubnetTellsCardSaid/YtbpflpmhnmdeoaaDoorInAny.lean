/- subnet's In, of whatever address and subnet; the law's own question. -/
import Derived.Test.YtbpflpmhnmdeoaaDoorIn
import Derived.Test.YtbpflpmhnmdeoaaDoorMaskLaw
import Derived.Test.YtbpflpmhnmdeoaaDoorSameBytes
namespace Go.Proofs.YtbpflpmhnmdeoaaDoor
open Go.RowKit
set_option linter.unusedVariables false
set_option linter.unusedSimpArgs false

instance (f s sc : Int) (n : Nat) : Decidable (SOk f s sc n) := decidable_of_iff _ (SOk_iff f s sc n).symm
/-- is it in the subnet? -/
def inB (f s sc : Int) (l1 l2 : List UInt8) : Bool := decide (SOk f s sc l2.length) && (decide (l1.length = l2.length) && decide (maskL l1 s = maskL l2 s))

theorem In_any (w : World) (A1 : Option Addr) (n1 c1 : Nat) (l1 : List UInt8) (h1 : Rd u8R w w.heap.size A1 n1 c1 l1) (f s sc : Int) (A2 : Option Addr) (n2 c2 : Nat) (l2 : List UInt8) (h2 : Rd u8R w w.heap.size A2 n2 c2 l2) :
    Calls Tryd.prog 27 #[.slice A1 n1 c1, subnetV f s sc A2 n2 c2] w fun e w' => e = .returned (.bool (inB f s sc l1 l2)) ∧ Below w.heap.size w w' := by
  have e1 := h1.len
  have e2 := h2.len
  by_cases hk : SOk f s sc n2
  · by_cases hn : n1 = n2
    · subst hn
      have : inB f s sc l1 l2 = decide (maskL l1 s = maskL l2 s) := by unfold inB; rw [e1, e2, decide_eq_true hk]; simp
      rw [this]
      exact In_ok w A1 n1 c1 l1 h1 f s sc A2 c2 l2 h2 hk
    · have : inB f s sc l1 l2 = false := by unfold inB; rw [e1, e2, decide_eq_false hn]; simp
      rw [this]
      exact In_len w A1 n1 c1 f s sc A2 n2 c2 hk hn
  · have : inB f s sc l1 l2 = false := by unfold inB; rw [e2, decide_eq_false hk]; simp
    rw [this]
    exact In_fault w A1 n1 c1 f s sc A2 n2 c2 hk

theorem inB_iff {f s sc : Int} {l1 l2 : List UInt8} : inB f s sc l1 l2 = true ↔ SOk f s sc l2.length ∧ l1.length = l2.length ∧ maskL l1 s = maskL l2 s := by
  unfold inB; simp

/-! a subnet that came in -/
abbrev subnetR : Rep (Int × Int × Int × List UInt8 × Unit) := pairR intR (pairR intR (pairR intR (pairR (sliceR u8R) unitR)))
theorem opens_subnet : Opens Tryd.prog 56 subnetR := opens_struct Tryd.underlying56 rfl (by kernel_rfl) (fields_cons rfl (by kernel_rfl) (opens_int Tryd.underlying3) (fields_cons rfl (by kernel_rfl) (opens_int Tryd.underlying3) (fields_cons rfl (by kernel_rfl) (opens_int Tryd.underlying3) (fields_cons rfl (by kernel_rfl) (opens_slice Tryd.underlying44 (opens_u8 Tryd.underlying5) (by kernel_rfl) (by decide) (of_decide_eq_true (by kernel_rfl))) (fields_nil _)))))
theorem subnet_of {w : World} {B : Nat} {x : Int × Int × Int × List UInt8 × Unit} {cs : Array Value} (h : subnetR.rel w B x cs.toList) :
    ∃ f s sc A n c l, Value.agg cs = subnetV f s sc A n c ∧ cs = #[.int .i64 f, .int .i64 s, .int .i64 sc, .slice A n c] ∧ I64 f ∧ I64 s ∧ I64 sc ∧ Rd u8R w B A n c l := by
  obtain ⟨_, _, e0, ⟨rfl, h1⟩, _, _, rfl, ⟨rfl, h2⟩, _, _, rfl, ⟨rfl, h3⟩, _, _, rfl, ⟨A, n, c, rfl, h4⟩, rfl⟩ := h
  have : cs = #[.int .i64 x.1, .int .i64 x.2.1, .int .i64 x.2.2.1, .slice A n c] := by cases cs; simp_all
  exact ⟨_, _, _, A, n, c, _, by rw [this], this, h1, h2, h3, h4⟩
end Go.Proofs.YtbpflpmhnmdeoaaDoor
