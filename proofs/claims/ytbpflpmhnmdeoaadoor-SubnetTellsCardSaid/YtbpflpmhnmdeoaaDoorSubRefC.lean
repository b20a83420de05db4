/- The document's answers of subnets: Wide, SubnetFault, Inside. -/
import Derived.Test.YtbpflpmhnmdeoaaDoorSubRefB
namespace Go.Proofs.YtbpflpmhnmdeoaaDoor
open Go.RowKit
set_option linter.unusedVariables false
set_option linter.unusedSimpArgs false

theorem wide_any (f : Int) (w : World) : Calls Tryd.prog 38 #[.int .i64 f] w fun e w' => e = .returned (.int .i64 (if f = 1 then 4 else if f = 2 then 16 else 0)) ∧ w' = w := by
  by_cases h1 : f = 1
  · subst h1
    go_enter Tryd.func38, Tryd.ntmps38
    go_wp2
    go_ret
    exact ⟨rfl, rfl⟩
  · by_cases h2 : f = 2
    · subst h2
      go_enter Tryd.func38, Tryd.ntmps38
      go_wp2
      go_ret
      exact ⟨rfl, rfl⟩
    · have e1 : (f == 1) = false := by simp [h1]
      have e2 : (f == 2) = false := by simp [h2]
      rw [if_neg h1, if_neg h2]
      clear h1 h2
      go_enter Tryd.func38, Tryd.ntmps38
      go_wp2
      go_ret
      exact ⟨rfl, rfl⟩
theorem wide_is (f m : Int) (h : (if f = 1 then (4 : Int) else if f = 2 then 16 else 0) = m) (w : World) : Calls Tryd.prog 38 #[.int .i64 f] w fun e w' => e = .returned (.int .i64 m) ∧ w' = w := by
  rw [← h]; exact wide_any f w

set_option maxRecDepth 100000 in
set_option maxHeartbeats 4000000 in
theorem sfault_any (w : World) (f s sc : Int) (A : Option Addr) (n c : Nat) :
    Calls Tryd.prog 24 #[subnetV f s sc A n c] w fun e w' => e = .returned (.int .i64 (errS f s sc n)) ∧ Below w.heap.size w w' := by
  by_cases h1 : f = 1
  · subst h1
    have CW := hid (wide_is 1 4 rfl)
    by_cases hn : n = 4
    · subst hn
      have ways : (errS 1 s sc 4 = 6 ∧ (s < 0 ∨ (0 ≤ s ∧ 32 < s) ∨ (0 ≤ s ∧ s ≤ 32 ∧ sc < 0) ∨ (0 ≤ s ∧ s ≤ 32 ∧ 0 ≤ sc ∧ 32 < sc))) ∨ (errS 1 s sc 4 = 0 ∧ 0 ≤ s ∧ s ≤ 32 ∧ 0 ≤ sc ∧ sc ≤ 32) := by
        unfold errS
        by_cases h : 0 ≤ s ∧ s ≤ 32 ∧ 0 ≤ sc ∧ sc ≤ 32
        · right; exact ⟨by simp [h], h.1, h.2.1, h.2.2.1, h.2.2.2⟩
        · left; exact ⟨by simp; omega, by omega⟩
      rcases ways with ⟨he, q1 | ⟨q1, q2⟩ | ⟨q1, q2, q3⟩ | ⟨q1, q2, q3, q4⟩⟩ | ⟨he, q1, q2, q3, q4⟩
      all_goals
        rw [he]
        clear he
        try (have p0 : ¬ (s < 0) := by omega)
        try (have p0 : s < 0 := by omega)
        try (have e0 : decide (s < 0) = false := decide_eq_false (by omega))
        try (have e0 : decide (s < 0) = true := decide_eq_true (by omega))
        try (have p1 : ¬ (32 < s) := by omega)
        try (have p1 : 32 < s := by omega)
        try (have e1 : decide (32 < s) = false := decide_eq_false (by omega))
        try (have e1 : decide (32 < s) = true := decide_eq_true (by omega))
        try (have p2 : ¬ (sc < 0) := by omega)
        try (have p2 : sc < 0 := by omega)
        try (have e2 : decide (sc < 0) = false := decide_eq_false (by omega))
        try (have e2 : decide (sc < 0) = true := decide_eq_true (by omega))
        try (have p3 : ¬ (32 < sc) := by omega)
        try (have p3 : 32 < sc := by omega)
        try (have e3 : decide (32 < sc) = false := decide_eq_false (by omega))
        try (have e3 : decide (32 < sc) = true := decide_eq_true (by omega))
        go_enter Tryd.func24, Tryd.ntmps24
        go_wp2_with (go_at_call 38; (with_reducible refine (CW.out _).mono ?_); rintro e w1 ⟨rfl, hw⟩; subst w1)
        go_ret
        exact ⟨by first | rfl | (simp; done), (by (repeat' (first | (with_reducible exact Below.refl _ _) | (with_reducible assumption) | (with_reducible refine below_ext0 ?_ _ _) | (with_reducible refine below_alloc0 ?_ _) | (with_reducible refine Below.ext ?_ ?_ _ _) | (with_reducible refine Below.alloc ?_ ?_ _) | (with_reducible refine Below.setCell ?_ ?_ _) | (with_reducible refine Below.drew ?_) | (with_reducible refine below_draws ?_ _) | go_size | (simp [size_ext]; done) | (simp [size_ext]; omega))))⟩

    · have he : errS 1 s sc n = 2 := by unfold errS; simp [hn]
      rw [he]
      have e1 : ((n : Int) != 4) = true := by rw [bne_iff_ne]; omega
      have e2 : ¬ ((n : Int) = 4) := by omega
      clear he
      go_enter Tryd.func24, Tryd.ntmps24
      go_wp2_with (go_at_call 38; (with_reducible refine (CW.out _).mono ?_); rintro e w1 ⟨rfl, hw⟩; subst w1)
      go_ret
      exact ⟨by first | rfl | (simp; done), (by (repeat' (first | (with_reducible exact Below.refl _ _) | (with_reducible assumption) | (with_reducible refine below_ext0 ?_ _ _) | (with_reducible refine below_alloc0 ?_ _) | (with_reducible refine Below.ext ?_ ?_ _ _) | (with_reducible refine Below.alloc ?_ ?_ _) | (with_reducible refine Below.setCell ?_ ?_ _) | (with_reducible refine Below.drew ?_) | (with_reducible refine below_draws ?_ _) | go_size | (simp [size_ext]; done) | (simp [size_ext]; omega))))⟩

  · by_cases h2 : f = 2
    · subst h2
      have CW := hid (wide_is 2 16 rfl)
      by_cases hn : n = 16
      · subst hn
        have ways : (errS 2 s sc 16 = 6 ∧ (s < 0 ∨ (0 ≤ s ∧ 128 < s) ∨ (0 ≤ s ∧ s ≤ 128 ∧ sc < 0) ∨ (0 ≤ s ∧ s ≤ 128 ∧ 0 ≤ sc ∧ 128 < sc))) ∨ (errS 2 s sc 16 = 0 ∧ 0 ≤ s ∧ s ≤ 128 ∧ 0 ≤ sc ∧ sc ≤ 128) := by
          unfold errS
          by_cases h : 0 ≤ s ∧ s ≤ 128 ∧ 0 ≤ sc ∧ sc ≤ 128
          · right; exact ⟨by simp [h], h.1, h.2.1, h.2.2.1, h.2.2.2⟩
          · left; exact ⟨by simp; omega, by omega⟩
        rcases ways with ⟨he, q1 | ⟨q1, q2⟩ | ⟨q1, q2, q3⟩ | ⟨q1, q2, q3, q4⟩⟩ | ⟨he, q1, q2, q3, q4⟩
        all_goals
          rw [he]
          clear he
          try (have p0 : ¬ (s < 0) := by omega)
          try (have p0 : s < 0 := by omega)
          try (have e0 : decide (s < 0) = false := decide_eq_false (by omega))
          try (have e0 : decide (s < 0) = true := decide_eq_true (by omega))
          try (have p1 : ¬ (128 < s) := by omega)
          try (have p1 : 128 < s := by omega)
          try (have e1 : decide (128 < s) = false := decide_eq_false (by omega))
          try (have e1 : decide (128 < s) = true := decide_eq_true (by omega))
          try (have p2 : ¬ (sc < 0) := by omega)
          try (have p2 : sc < 0 := by omega)
          try (have e2 : decide (sc < 0) = false := decide_eq_false (by omega))
          try (have e2 : decide (sc < 0) = true := decide_eq_true (by omega))
          try (have p3 : ¬ (128 < sc) := by omega)
          try (have p3 : 128 < sc := by omega)
          try (have e3 : decide (128 < sc) = false := decide_eq_false (by omega))
          try (have e3 : decide (128 < sc) = true := decide_eq_true (by omega))
          go_enter Tryd.func24, Tryd.ntmps24
          go_wp2_with (go_at_call 38; (with_reducible refine (CW.out _).mono ?_); rintro e w1 ⟨rfl, hw⟩; subst w1)
          go_ret
          exact ⟨by first | rfl | (simp; done), (by (repeat' (first | (with_reducible exact Below.refl _ _) | (with_reducible assumption) | (with_reducible refine below_ext0 ?_ _ _) | (with_reducible refine below_alloc0 ?_ _) | (with_reducible refine Below.ext ?_ ?_ _ _) | (with_reducible refine Below.alloc ?_ ?_ _) | (with_reducible refine Below.setCell ?_ ?_ _) | (with_reducible refine Below.drew ?_) | (with_reducible refine below_draws ?_ _) | go_size | (simp [size_ext]; done) | (simp [size_ext]; omega))))⟩

      · have he : errS 2 s sc n = 2 := by unfold errS; simp [hn]
        rw [he]
        have e1 : ((n : Int) != 16) = true := by rw [bne_iff_ne]; omega
        have e2 : ¬ ((n : Int) = 16) := by omega
        clear he
        go_enter Tryd.func24, Tryd.ntmps24
        go_wp2_with (go_at_call 38; (with_reducible refine (CW.out _).mono ?_); rintro e w1 ⟨rfl, hw⟩; subst w1)
        go_ret
        exact ⟨by first | rfl | (simp; done), (by (repeat' (first | (with_reducible exact Below.refl _ _) | (with_reducible assumption) | (with_reducible refine below_ext0 ?_ _ _) | (with_reducible refine below_alloc0 ?_ _) | (with_reducible refine Below.ext ?_ ?_ _ _) | (with_reducible refine Below.alloc ?_ ?_ _) | (with_reducible refine Below.setCell ?_ ?_ _) | (with_reducible refine Below.drew ?_) | (with_reducible refine below_draws ?_ _) | go_size | (simp [size_ext]; done) | (simp [size_ext]; omega))))⟩

    · have he : errS f s sc n = 6 := by unfold errS; simp [h1, h2]
      rw [he]
      have CW := hid (wide_is f 0 (by simp [h1, h2]))
      clear he h1 h2
      go_enter Tryd.func24, Tryd.ntmps24
      go_wp2_with (go_at_call 38; (with_reducible refine (CW.out _).mono ?_); rintro e w1 ⟨rfl, hw⟩; subst w1)
      go_ret
      exact ⟨by first | rfl | (simp; done), (by (repeat' (first | (with_reducible exact Below.refl _ _) | (with_reducible assumption) | (with_reducible refine below_ext0 ?_ _ _) | (with_reducible refine below_alloc0 ?_ _) | (with_reducible refine Below.ext ?_ ?_ _ _) | (with_reducible refine Below.alloc ?_ ?_ _) | (with_reducible refine Below.setCell ?_ ?_ _) | (with_reducible refine Below.drew ?_) | (with_reducible refine below_draws ?_ _) | go_size | (simp [size_ext]; done) | (simp [size_ext]; omega))))⟩

end Go.Proofs.YtbpflpmhnmdeoaaDoor
