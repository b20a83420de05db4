/- subnet's In, of whatever address and subnet; the law's own question. -/
import Derived.Test.YtbpflpmhnmdeoaaIn
import Derived.Test.YtbpflpmhnmdeoaaMaskLaw
import Derived.Test.YtbpflpmhnmdeoaaSameBytes
namespace Go.Proofs.Ytbpflpmhnmdeoaa
open Go.RowKit
set_option linter.unusedVariables false

instance (f s sc : Int) (n : Nat) : Decidable (SOk f s sc n) := decidable_of_iff _ (SOk_iff f s sc n).symm
/-- is it in the subnet? -/
def inB (f s sc : Int) (l1 l2 : List UInt8) : Bool := decide (SOk f s sc l2.length) && (decide (l1.length = l2.length) && decide (maskL l1 s = maskL l2 s))

theorem In_any (w : World) (A1 : Option Addr) (n1 c1 : Nat) (l1 : List UInt8) (h1 : Rd u8R w w.heap.size A1 n1 c1 l1) (f s sc : Int) (A2 : Option Addr) (n2 c2 : Nat) (l2 : List UInt8) (h2 : Rd u8R w w.heap.size A2 n2 c2 l2) :
    Calls Try.prog 24 #[.slice A1 n1 c1, subnetV f s sc A2 n2 c2] w fun e w' => e = .returned (.bool (inB f s sc l1 l2)) ∧ Below w.heap.size w w' := by
  have e1 := h1.len
  have e2 := h2.len
  by_cases hk : SOk f s sc n2
  · by_cases hn : n1 = n2
    · subst hn
      have : inB f s sc l1 l2 = decide (maskL l1 s = maskL l2 s) := by unfold inB; rw [e1, e2, decide_eq_true hk]; simp
      rw [this]
      exact In_ok w A1 n1 c1 l1 h1 f s sc A2 c2 l2 h2 hk
    · have : inB f s sc l1 l2 = false := by unfold inB; rw [e1, e2, decide_eq_false hn]; simp
      rw [this]
      exact In_len w A1 n1 c1 f s sc A2 n2 c2 hk hn
  · have : inB f s sc l1 l2 = false := by unfold inB; rw [e2, decide_eq_false hk]; simp
    rw [this]
    exact In_fault w A1 n1 c1 f s sc A2 n2 c2 hk

theorem inB_iff {f s sc : Int} {l1 l2 : List UInt8} : inB f s sc l1 l2 = true ↔ SOk f s sc l2.length ∧ l1.length = l2.length ∧ maskL l1 s = maskL l2 s := by
  unfold inB; simp

set_option maxHeartbeats 2000000 in
theorem masked_true (w : World) : Calls Try.prog 23 #[] w fun e w' => e = .returned (.bool true) ∧ Below w.heap.size w w' := by
  have hd : decide (maskL [255, 255] 9 = [255, 128]) = true := by decide +kernel
  have HD := hid hd
  clear hd
  go_enter Try.func23, Try.ntmps23
  go_wp2_with fail
  refine (Mask_ok _ _ _ _ [255, 255] _ (rd_lit 5 #[.int .u8 255, .int .u8 255] [255, 255] 2 (by simp) (by simp) rfl (by simp)) 9 (by decide) (by decide)).mono ?_
  rintro e w1 ⟨A', c', rfl, hr, hb⟩
  obtain ⟨os, d, rfl⟩ := ext_of_below hb
  (try simp only [ext_drew, ext_drewN] at hr); have HR := hid hr; clear hr
  clear hb
  go_wp2_with fail
  refine (bytes_any _ _ _ _ _ _ (HR.out.alloc (Nat.le_refl _) _) _ _ _ _ _ (rd_lit 5 #[.int .u8 255, .int .u8 128] [255, 128] 2 (by simp [size_ext]) (by simp) rfl (by simp))).mono ?_
  rw [HD.out]
  rintro e w1 ⟨rfl, hb⟩
  obtain ⟨os1, d1, rfl⟩ := ext_of_below hb
  clear hb
  go_wp2
  go_ret
  exact ⟨rfl, by (repeat' (first | (with_reducible exact Below.refl _ _) | (with_reducible assumption) | (with_reducible refine below_ext0 ?_ _ _) | (with_reducible refine below_alloc0 ?_ _) | (with_reducible refine Below.ext ?_ ?_ _ _) | (with_reducible refine Below.alloc ?_ ?_ _) | (with_reducible refine Below.setCell ?_ ?_ _) | (with_reducible refine Below.drew ?_) | (with_reducible refine below_draws ?_ _) | go_size | (simp [size_ext]; done) | (simp [size_ext]; omega)))⟩

/-! a subnet that came in -/
abbrev subnetR : Rep (Int × Int × Int × List UInt8 × Unit) := pairR intR (pairR intR (pairR intR (pairR (sliceR u8R) unitR)))
theorem opens_subnet : Opens Try.prog 53 subnetR := opens_struct Try.underlying53 rfl (by kernel_rfl) (fields_cons rfl (by kernel_rfl) (opens_int Try.underlying3) (fields_cons rfl (by kernel_rfl) (opens_int Try.underlying3) (fields_cons rfl (by kernel_rfl) (opens_int Try.underlying3) (fields_cons rfl (by kernel_rfl) (opens_slice Try.underlying36 (opens_u8 Try.underlying5) (by kernel_rfl) (by decide) (of_decide_eq_true (by kernel_rfl))) (fields_nil _)))))
theorem subnet_of {w : World} {B : Nat} {x : Int × Int × Int × List UInt8 × Unit} {cs : Array Value} (h : subnetR.rel w B x cs.toList) :
    ∃ f s sc A n c l, Value.agg cs = subnetV f s sc A n c ∧ cs = #[.int .i64 f, .int .i64 s, .int .i64 sc, .slice A n c] ∧ I64 f ∧ I64 s ∧ I64 sc ∧ Rd u8R w B A n c l := by
  obtain ⟨_, _, e0, ⟨rfl, h1⟩, _, _, rfl, ⟨rfl, h2⟩, _, _, rfl, ⟨rfl, h3⟩, _, _, rfl, ⟨A, n, c, rfl, h4⟩, rfl⟩ := h
  have : cs = #[.int .i64 x.1, .int .i64 x.2.1, .int .i64 x.2.2.1, .slice A n c] := by cases cs; simp_all
  exact ⟨_, _, _, A, n, c, _, by rw [this], this, h1, h2, h3, h4⟩
end Go.Proofs.Ytbpflpmhnmdeoaa
