/- The document's answers of records: two bytes, RecordFault, RecordAt. -/
import Derived.Test.YtkdfiedemhjjjaaDoorRrD
import Derived.Test.YtkdfiedemhjjjaaDoorWireRefE
import Derived.Test.YtkdfiedemhjjjaaDoorNameRef
namespace Go.Proofs.YtkdfiedemhjjjaaDoor
open Go.RowKit
set_option linter.unusedVariables false

theorem rpair_any {w : World} (x : Int) (h0 : 0 ≤ x) (h1 : x ≤ 65535) :
    Calls Tryd.prog 44 #[.int .i64 x] w fun e w' => ∃ A' c', e = .returned (.slice A' 2 c') ∧ Rd u8R w' w'.heap.size A' 2 c' (two2 x) ∧ Below w.heap.size w w' := by
  have hc : Rd u8R (w.alloc (.cells #[.int .u8 (x / 256), .int .u8 (x % 256)] 5)) (w.alloc (.cells #[.int .u8 (x / 256), .int .u8 (x % 256)] 5)).heap.size (some ⟨w.heap.size, 0, none⟩) 2 2 (two2 x) := by
    refine rd_lit 5 _ (two2 x) 2 rfl ?_ rfl (by omega)
    simp only [two2, List.map_cons, List.map_nil, UInt8.toNat_ofNat']
    congr 2 <;> (try congr 1) <;> omega
  have HC := hid hc
  clear hc
  go_enter Tryd.func44, Tryd.ntmps44
  go_wp2
  go_ret
  exact ⟨_, _, rfl, HC.out, (by (repeat' (first | (with_reducible exact Below.refl _ _) | (with_reducible assumption) | (with_reducible refine below_ext0 ?_ _ _) | (with_reducible refine below_alloc0 ?_ _) | (with_reducible refine Below.ext ?_ ?_ _ _) | (with_reducible refine Below.alloc ?_ ?_ _) | (with_reducible refine Below.setCell ?_ ?_ _) | (with_reducible refine Below.drew ?_) | (with_reducible refine below_draws ?_ _) | go_size | (simp [size_ext]; done) | (simp [size_ext]; omega))))⟩
theorem rpair_at {w : World} {B b o n c : Nat} {m : List UInt8} (hM : Rd u8R w B (some ⟨b, o, none⟩) n c m) (p : Nat) {x : Int} (hx : x = (p : Int)) (hp : p + 2 ≤ n) {k : Nat} (hk : at2 m p = k) :
    Calls Tryd.prog 35 #[.slice (some ⟨b, o, none⟩) n c, .int .i64 x] w fun e w' => e = .returned (.int .i64 (k : Int)) ∧ Below w.heap.size w w' := by
  obtain ⟨x0, x1, hxy, c0, c1, lb⟩ := hM.two p hp
  subst hx
  rw [hk] at hxy
  have hc := hM.cap
  have hm := hM.max
  have hl := hM.lim
  simp only [u8R, Nat.mul_one] at hl
  unfold maxLen at hm
  have hx := x0.toNat_lt
  have hy := x1.toNat_lt
  have hkk : (x0.toNat : Int) * 256 + (x1.toNat : Int) = (k : Int) := by omega
  have p0 : (0 : Int) ≤ (x0.toNat : Int) := by omega
  have p1 : (0 : Int) ≤ (x1.toNat : Int) := by omega
  have p2 : (x0.toNat : Int) ≤ 255 := by omega
  have p3 : (x1.toNat : Int) ≤ 255 := by omega
  clear hM hxy hk hx hy
  generalize (x0.toNat : Int) = y0 at *
  generalize (x1.toNat : Int) = y1 at *
  have v0 : IntKind.i64.wrap y0 = y0 := IntWalk.i64_in _ (by omega)
  have v01 : IntKind.i64.wrap (y0 * 256) = y0 * 256 := IntWalk.i64_in _ (by omega)
  have v1 : IntKind.i64.wrap y1 = y1 := IntWalk.i64_in _ (by omega)
  have vk : IntKind.i64.wrap (k : Int) = (k : Int) := IntWalk.i64_in _ (by omega)
  have v3 : IntKind.i64.wrap ((p : Int) + 1) = (p : Int) + 1 := IntWalk.i64_in _ (by omega)
  have j0 : (p : Int) < (n : Int) := by omega
  have j1 : (p : Int) + 1 < (n : Int) := by omega
  have j2 : p < n := by omega
  have j3 : p + 1 < n := by omega
  have j4 : (0 : Int) ≤ (p : Int) := by omega
  have j5 : (0 : Int) ≤ (p : Int) + 1 := by omega
  rw [Nat.add_assoc] at c1
  have c1' : w.cell? ⟨b, o + ((p : Int) + 1).toNat, none⟩ = some (.int .u8 y1) := by rw [show ((p : Int) + 1).toNat = p + 1 by omega]; exact c1
  go_enter Tryd.func35, Tryd.ntmps35
  go_wp2_with fail
  go_region_held3 (fun w' => w'.cell? ⟨b, o + p, none⟩ = some (.int .u8 y0) ∧ w'.cell? ⟨b, o + (p + 1), none⟩ = some (.int .u8 y1)) (go_keep) (fail)
  all_goals go_wp2
  all_goals go_ret
  all_goals exact ⟨by first | rfl | (rw [vk]; rfl) | (simp [vk]; done), by (repeat' (first | (with_reducible exact Below.refl _ _) | (with_reducible assumption) | (with_reducible refine below_ext0 ?_ _ _) | (with_reducible refine below_alloc0 ?_ _) | (with_reducible refine Below.ext ?_ ?_ _ _) | (with_reducible refine Below.alloc ?_ ?_ _) | (with_reducible refine Below.setCell ?_ ?_ _) | (with_reducible refine Below.drew ?_) | (with_reducible refine below_draws ?_ _) | go_size | (simp [size_ext]; done) | (simp [size_ext]; omega)))⟩
theorem rword_any (w : World) (x : Int) (hx : I64 x) : Calls Tryd.prog 42 #[.int .i64 x] w fun e w' => e = .returned (.bool (decide (0 ≤ x) && decide (x ≤ 65535))) ∧ Below w.heap.size w w' := by
  by_cases h0 : 0 ≤ x
  · have e0 : decide (0 ≤ x) = true := decide_eq_true h0
    by_cases h1 : x ≤ 65535
    · have e1 : decide (x ≤ 65535) = true := decide_eq_true h1
      go_enter Tryd.func42, Tryd.ntmps42
      go_wp2
      go_ret
      exact ⟨by simp [h0, h1], (by (repeat' (first | (with_reducible exact Below.refl _ _) | (with_reducible assumption) | (with_reducible refine below_ext0 ?_ _ _) | (with_reducible refine below_alloc0 ?_ _) | (with_reducible refine Below.ext ?_ ?_ _ _) | (with_reducible refine Below.alloc ?_ ?_ _) | (with_reducible refine Below.setCell ?_ ?_ _) | (with_reducible refine Below.drew ?_) | (with_reducible refine below_draws ?_ _) | go_size | (simp [size_ext]; done) | (simp [size_ext]; omega))))⟩
    · have e1 : decide (x ≤ 65535) = false := decide_eq_false h1
      have h2 : 65535 < x := by omega
      go_enter Tryd.func42, Tryd.ntmps42
      go_wp2
      go_ret
      exact ⟨by simp [h0, h1], (by (repeat' (first | (with_reducible exact Below.refl _ _) | (with_reducible assumption) | (with_reducible refine below_ext0 ?_ _ _) | (with_reducible refine below_alloc0 ?_ _) | (with_reducible refine Below.ext ?_ ?_ _ _) | (with_reducible refine Below.alloc ?_ ?_ _) | (with_reducible refine Below.setCell ?_ ?_ _) | (with_reducible refine Below.drew ?_) | (with_reducible refine below_draws ?_ _) | go_size | (simp [size_ext]; done) | (simp [size_ext]; omega))))⟩
  · have e0 : decide (0 ≤ x) = false := decide_eq_false h0
    have h2 : x < 0 := by omega
    go_enter Tryd.func42, Tryd.ntmps42
    go_wp2
    go_ret
    exact ⟨by simp [h0], (by (repeat' (first | (with_reducible exact Below.refl _ _) | (with_reducible assumption) | (with_reducible refine below_ext0 ?_ _ _) | (with_reducible refine below_alloc0 ?_ _) | (with_reducible refine Below.ext ?_ ?_ _ _) | (with_reducible refine Below.alloc ?_ ?_ _) | (with_reducible refine Below.setCell ?_ ?_ _) | (with_reducible refine Below.drew ?_) | (with_reducible refine below_draws ?_ _) | go_size | (simp [size_ext]; done) | (simp [size_ext]; omega))))⟩
end Go.Proofs.YtkdfiedemhjjjaaDoor
