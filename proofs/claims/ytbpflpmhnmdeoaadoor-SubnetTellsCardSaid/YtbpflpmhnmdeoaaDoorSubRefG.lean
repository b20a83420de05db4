/- The document's answers of subnets: SubnetOf, where numbers are out of range. -/
import Derived.Test.YtbpflpmhnmdeoaaDoorSubRefF
namespace Go.Proofs.YtbpflpmhnmdeoaaDoor
open Go.RowKit
set_option linter.unusedVariables false
set_option linter.unusedSimpArgs false

theorem spair_at {w : World} {B b o n c : Nat} {l : List UInt8} (hM : Rd u8R w B (some ⟨b, o, none⟩) n c l) (hn : 4 ≤ n) {F : Int} (hF : decF l = F) :
    Calls Tryd.prog 42 #[.slice (some ⟨b, o, none⟩) n c, .int .i64 0] w fun e w' => e = .returned (.int .i64 F) ∧ Below w.heap.size w w' := by
  obtain ⟨x0, hx0, c0, k0, lb⟩ := hM.byte 0 (by omega)
  obtain ⟨x1, hx1, c1, k1, _⟩ := hM.byte 1 (by omega)
  rw [Nat.add_zero] at c0
  have hFF : (x0.toNat : Int) * 256 + (x1.toNat : Int) = F := by rw [← hF]; unfold decF; rw [hx0, hx1]
  have p0 : (0 : Int) ≤ (x0.toNat : Int) := by omega
  have p1 : (0 : Int) ≤ (x1.toNat : Int) := by omega
  have j0 : (0 : Int) < (n : Int) := by omega
  have j1 : (1 : Int) < (n : Int) := by omega
  have j2 : 0 < n := by omega
  have j3 : 1 < n := by omega
  clear hM hx0 hx1 hF
  generalize (x0.toNat : Int) = y0 at *
  generalize (x1.toNat : Int) = y1 at *
  have v0 : IntKind.i64.wrap y0 = y0 := IntWalk.i64_in _ (by omega)
  have v01 : IntKind.i64.wrap (y0 * 256) = y0 * 256 := IntWalk.i64_in _ (by omega)
  have v1 : IntKind.i64.wrap y1 = y1 := IntWalk.i64_in _ (by omega)
  have vk : IntKind.i64.wrap F = F := IntWalk.i64_in _ (by omega)
  have w1 : IntKind.i64.wrap (0 + 1) = 1 := by decide
  have w2 : IntKind.i64.wrap 1 = 1 := by decide
  go_enter Tryd.func42, Tryd.ntmps42
  go_wp2_with fail
  go_region_held3 (fun w' => w'.cell? ⟨b, o, none⟩ = some (.int .u8 y0) ∧ w'.cell? ⟨b, o + 1, none⟩ = some (.int .u8 y1)) (go_keep) (fail)
  all_goals go_wp2
  all_goals go_ret
  all_goals exact ⟨by first | rfl | (rw [vk]; rfl) | (rw [hFF, vk]; rfl) | (simp [hFF, vk]; done), by (repeat' (first | (with_reducible exact Below.refl _ _) | (with_reducible assumption) | (with_reducible refine below_ext0 ?_ _ _) | (with_reducible refine below_alloc0 ?_ _) | (with_reducible refine Below.ext ?_ ?_ _ _) | (with_reducible refine Below.alloc ?_ ?_ _) | (with_reducible refine Below.setCell ?_ ?_ _) | (with_reducible refine Below.drew ?_) | (with_reducible refine below_draws ?_ _) | go_size | (simp [size_ext]; done) | (simp [size_ext]; omega)))⟩

set_option maxRecDepth 100000 in
set_option maxHeartbeats 4000000 in
theorem subof_range {w : World} {b o n c : Nat} {l : List UInt8} (hM : Rd u8R w w.heap.size (some ⟨b, o, none⟩) n c l) (hn : 4 ≤ n) (hk : ¬ SOk (decF l) (decS l) (decC l) (famN (decF l))) :
    Calls Tryd.prog 29 #[.slice (some ⟨b, o, none⟩) n c] w fun e w' => e = .returned (.tuple #[subnetV 0 0 0 none 0 0, .int .i64 6]) ∧ Below w.heap.size w w' := by
  obtain ⟨x2, hx2, c2, k2, lb⟩ := hM.byte 2 (by omega)
  obtain ⟨x3, hx3, c3, k3, _⟩ := hM.byte 3 (by omega)
  have hS : decS l = (x2.toNat : Int) := by unfold decS; rw [hx2]
  have hC : decC l = (x3.toNat : Int) := by unfold decC; rw [hx3]
  obtain ⟨F, hF⟩ : ∃ F, decF l = F := ⟨_, rfl⟩
  have CP := hid fun w' (hb : Below w.heap.size w w') => spair_at (hM.later hb) hn hF
  have s0 : (0 : Int) ≤ (x2.toNat : Int) := by omega
  have s3 : (0 : Int) ≤ (x3.toNat : Int) := by omega
  rw [hF, hS, hC] at hk
  have ways := not_SOk s0 s3 hk
  clear hM hx2 hx3 hk hS hC hF
  generalize (x2.toNat : Int) = y2 at *
  generalize (x3.toNat : Int) = y3 at *
  have v2 : IntKind.i64.wrap y2 = y2 := IntWalk.i64_in _ (by omega)
  have v3 : IntKind.i64.wrap y3 = y3 := IntWalk.i64_in _ (by omega)
  have j2 : (2 : Int) < (n : Int) := by omega
  have j3 : (3 : Int) < (n : Int) := by omega
  have j4 : 2 < n := by omega
  have j5 : 3 < n := by omega
  have h0 : ¬ (n : Int) < 4 := by omega
  have h1 : decide ((n : Int) < 4) = false := decide_eq_false h0
  rcases ways with ⟨q1, q2⟩ | ⟨rfl, q1 | ⟨q1, q2⟩⟩ | ⟨rfl, q1 | ⟨q1, q2⟩⟩
  case' inl => have CW := hid (wide_is F 0 (by simp [q1, q2])); clear q1 q2
  case' inr.inl.inl => have CW := hid (wide_is 1 4 rfl)
  case' inr.inl.inr => have CW := hid (wide_is 1 4 rfl)
  case' inr.inr.inl => have CW := hid (wide_is 2 16 rfl)
  case' inr.inr.inr => have CW := hid (wide_is 2 16 rfl)
  all_goals
    try (have p0 : ¬ (32 < y2) := by omega)
    try (have p0 : 32 < y2 := by omega)
    try (have e0 : decide (32 < y2) = false := decide_eq_false (by omega))
    try (have e0 : decide (32 < y2) = true := decide_eq_true (by omega))
    try (have p1 : ¬ (32 < y3) := by omega)
    try (have p1 : 32 < y3 := by omega)
    try (have e1 : decide (32 < y3) = false := decide_eq_false (by omega))
    try (have e1 : decide (32 < y3) = true := decide_eq_true (by omega))
    try (have p2 : ¬ (128 < y2) := by omega)
    try (have p2 : 128 < y2 := by omega)
    try (have e2 : decide (128 < y2) = false := decide_eq_false (by omega))
    try (have e2 : decide (128 < y2) = true := decide_eq_true (by omega))
    try (have p3 : ¬ (128 < y3) := by omega)
    try (have p3 : 128 < y3 := by omega)
    try (have e3 : decide (128 < y3) = false := decide_eq_false (by omega))
    try (have e3 : decide (128 < y3) = true := decide_eq_true (by omega))
    have tk0 : True := trivial; have tk1 : True := trivial; have tk2 : True := trivial; have tk3 : True := trivial; have tk4 : True := trivial; have tk5 : True := trivial; have tk6 : True := trivial; have tk7 : True := trivial; have tk8 : True := trivial; have tk9 : True := trivial; have tk10 : True := trivial; have tk11 : True := trivial; have tk12 : True := trivial
    go_enter Tryd.func29, Tryd.ntmps29
    go_wp2_with fail
    go_region_held3 (fun w' => w'.cell? ⟨b, o + 2, none⟩ = some (.int .u8 y2) ∧ w'.cell? ⟨b, o + 3, none⟩ = some (.int .u8 y3)) (((try dsimp only); (repeat' apply And.intro) <;> (first | assumption | (go_simp; done)))) (first
      | (go_at_call 42; have _t := tk1; (with_reducible refine (CP.out _ (by (repeat' (first | (with_reducible exact Below.refl _ _) | (with_reducible assumption) | (with_reducible refine below_ext0 ?_ _ _) | (with_reducible refine below_alloc0 ?_ _) | (with_reducible refine Below.ext ?_ ?_ _ _) | (with_reducible refine Below.alloc ?_ ?_ _) | (with_reducible refine Below.setCell ?_ ?_ _) | (with_reducible refine Below.drew ?_) | (with_reducible refine below_draws ?_ _) | go_size | (simp [size_ext]; done) | (simp [size_ext]; omega))))).mono ?_); rintro e w1 ⟨rfl, hb⟩; obtain ⟨otk1, dtk1, rfl⟩ := ext_of_below hb; clear hb tk1))
    all_goals
      go_wp2_with (go_at_call 38; (with_reducible refine (CW.out _).mono ?_); rintro e w1 ⟨rfl, hw⟩; subst w1)
      refine bodyPost_ret (v := .tuple #[subnetV 0 0 0 none 0 0, .int .i64 6]) (by simp [results, Tryd.results29, go_sem]) rfl ⟨rfl, (by (repeat' (first | (with_reducible exact Below.refl _ _) | (with_reducible assumption) | (with_reducible refine below_ext0 ?_ _ _) | (with_reducible refine below_alloc0 ?_ _) | (with_reducible refine Below.ext ?_ ?_ _ _) | (with_reducible refine Below.alloc ?_ ?_ _) | (with_reducible refine Below.setCell ?_ ?_ _) | (with_reducible refine Below.drew ?_) | (with_reducible refine below_draws ?_ _) | go_size | (simp [size_ext]; done) | (simp [size_ext]; omega))))⟩
end Go.Proofs.YtbpflpmhnmdeoaaDoor
