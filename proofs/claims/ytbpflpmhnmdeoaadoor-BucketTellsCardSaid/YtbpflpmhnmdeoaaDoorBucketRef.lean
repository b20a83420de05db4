/- The document's answers of buckets: BucketFault and Filled. -/
import Derived.Test.YtbpflpmhnmdeoaaDoorTake
import Derived.Test.YtbpflpmhnmdeoaaDoorRep
namespace Go.Proofs.YtbpflpmhnmdeoaaDoor
open Go.RowKit
set_option linter.unusedVariables false

def tickB (n : Int) : Bool := decide (0 ≤ n) && decide (n ≤ 2147483647)
theorem tickB_yes {n : Int} (h0 : 0 ≤ n) (h1 : n ≤ 2147483647) : tickB n = true := by unfold tickB; simp [h0, h1]
theorem tickB_no {n : Int} (h : n < 0 ∨ 2147483647 < n) : tickB n = false := by unfold tickB; simp; omega
theorem tick_any (n : Int) (w : World) : Calls Tryd.prog 33 #[.int .i64 n] w fun e w' => e = .returned (.bool (tickB n)) ∧ w' = w := by
  unfold tickB
  by_cases h0 : 0 ≤ n
  · by_cases h1 : n ≤ 2147483647
    · go_enter Tryd.func33, Tryd.ntmps33
      go_wp2
      go_ret
      exact ⟨by simp [h0, h1], rfl⟩
    · go_enter Tryd.func33, Tryd.ntmps33
      go_wp2
      go_ret
      exact ⟨by simp [h0, h1], rfl⟩
  · have hd : decide (0 ≤ n) = false := by simp; omega
    go_enter Tryd.func33, Tryd.ntmps33
    go_wp2
    go_ret
    exact ⟨by simp, rfl⟩

theorem check_ok_b (r u s a : Int) (k : BOk r u s a) (w : World) : Calls Tryd.prog 7 #[bucketV r u s a] w fun e w' => e = .returned .nilIface ∧ Below w.heap.size w w' :=
  (check_ok r u s a k w).mono fun e w1 ⟨he, hw⟩ => ⟨he, by subst hw; (repeat' (first | (with_reducible exact Below.refl _ _) | (with_reducible assumption) | (with_reducible refine Below.ext ?_ ?_ _ _) | (with_reducible refine Below.alloc ?_ ?_ _) | (with_reducible refine Below.setCell ?_ ?_ _) | (with_reducible refine Below.drew ?_) | (with_reducible refine below_draws ?_ _) | go_size | (simp [size_ext]; done) | (simp [size_ext]; omega)))⟩
theorem check_bad_b (r u s a : Int) (k : ¬ BOk r u s a) (w : World) : Calls Tryd.prog 7 #[bucketV r u s a] w fun e w' => e = .returned (.iface 28 (.int .i64 6)) ∧ Below w.heap.size w w' :=
  (check_bad r u s a k w).mono fun e w1 ⟨he, hw⟩ => ⟨he, by subst hw; (repeat' (first | (with_reducible exact Below.refl _ _) | (with_reducible assumption) | (with_reducible refine Below.ext ?_ ?_ _ _) | (with_reducible refine Below.alloc ?_ ?_ _) | (with_reducible refine Below.setCell ?_ ?_ _) | (with_reducible refine Below.drew ?_) | (with_reducible refine below_draws ?_ _) | go_size | (simp [size_ext]; done) | (simp [size_ext]; omega)))⟩

set_option maxHeartbeats 1000000 in
theorem fault_ok (r u s a : Int) (k : BOk r u s a) (w : World) :
    Calls Tryd.prog 8 #[bucketV r u s a] w fun e w' => e = .returned (.int .i64 0) ∧ Below w.heap.size w w' := by
  obtain ⟨r0, r1, u0, u1, h0, h1, a0, a1, hu⟩ := k
  have t1 := tickB_yes r0 r1
  have t2 := tickB_yes u0 u1
  have t3 := tickB_yes h0 h1
  have t4 := tickB_yes a0 a1
  go_enter Tryd.func8, Tryd.ntmps8
  go_wp2_with (go_at_call 33; refine (tick_any _ _).mono ?_; rintro e w1 ⟨rfl, rfl⟩)
  go_ret
  exact ⟨rfl, by (repeat' (first | (with_reducible exact Below.refl _ _) | (with_reducible assumption) | (with_reducible refine Below.ext ?_ ?_ _ _) | (with_reducible refine Below.alloc ?_ ?_ _) | (with_reducible refine Below.setCell ?_ ?_ _) | (with_reducible refine Below.drew ?_) | (with_reducible refine below_draws ?_ _) | go_size | (simp [size_ext]; done) | (simp [size_ext]; omega)))⟩

set_option maxHeartbeats 2000000 in
theorem fault_bad (r u s a : Int) (k : ¬ BOk r u s a) (w : World) :
    Calls Tryd.prog 8 #[bucketV r u s a] w fun e w' => e = .returned (.int .i64 6) ∧ Below w.heap.size w w' := by
  have ways : tickB r = false ∨ (tickB r = true ∧ tickB u = false) ∨ (tickB r = true ∧ tickB u = true ∧ tickB s = false) ∨ (tickB r = true ∧ tickB u = true ∧ tickB s = true ∧ tickB a = false) ∨ (tickB r = true ∧ tickB u = true ∧ tickB s = true ∧ tickB a = true ∧ u < s) := by
    rw [BOk_iff] at k
    unfold tickB
    simp only [Bool.and_eq_true, decide_eq_true_eq, Bool.and_eq_false_iff, decide_eq_false_iff_not]
    omega
  rcases ways with t1 | ⟨t1, t2⟩ | ⟨t1, t2, t3⟩ | ⟨t1, t2, t3, t4⟩ | ⟨t1, t2, t3, t4, hu⟩
  all_goals
    clear k
    go_enter Tryd.func8, Tryd.ntmps8
    go_wp2_with (go_at_call 33; refine (tick_any _ _).mono ?_; rintro e w1 ⟨rfl, rfl⟩)
    go_ret
    exact ⟨rfl, by (repeat' (first | (with_reducible exact Below.refl _ _) | (with_reducible assumption) | (with_reducible refine Below.ext ?_ ?_ _ _) | (with_reducible refine Below.alloc ?_ ?_ _) | (with_reducible refine Below.setCell ?_ ?_ _) | (with_reducible refine Below.drew ?_) | (with_reducible refine below_draws ?_ _) | go_size | (simp [size_ext]; done) | (simp [size_ext]; omega)))⟩

set_option maxHeartbeats 1000000 in
theorem ref_bad (r u s a now : Int) (k : ¬ (BOk r u s a ∧ a ≤ now ∧ now ≤ 2147483647)) (w : World) :
    Calls Tryd.prog 9 #[bucketV r u s a, .int .i64 now] w fun e w' => e = .returned (.tuple #[bucketV 0 0 0 0, .int .i64 6]) ∧ Below w.heap.size w w' := by
  by_cases c : BOk r u s a
  · have K := hid (fault_ok r u s a c)
    have hn : now < a ∨ (a ≤ now ∧ 2147483647 < now) := by
      have : ¬ (a ≤ now ∧ now ≤ 2147483647) := fun s => k ⟨c, s⟩
      omega
    clear k c
    rcases hn with hn | ⟨_, hn⟩
    all_goals
      go_enter Tryd.func9, Tryd.ntmps9
      go_wp2_with (go_at_call 8; refine (K.out _).mono ?_; rintro e w1 ⟨rfl, hb⟩; obtain ⟨os, d, rfl⟩ := ext_of_below hb; clear hb)
      refine bodyPost_ret (v := .tuple #[bucketV 0 0 0 0, .int .i64 6]) (by simp [results, Tryd.results9, go_sem]) rfl ⟨rfl, ?_⟩
      (repeat' (first | (with_reducible exact Below.refl _ _) | (with_reducible assumption) | (with_reducible refine Below.ext ?_ ?_ _ _) | (with_reducible refine Below.alloc ?_ ?_ _) | (with_reducible refine Below.setCell ?_ ?_ _) | (with_reducible refine Below.drew ?_) | (with_reducible refine below_draws ?_ _) | go_size | (simp [size_ext]; done) | (simp [size_ext]; omega)))
  · have K := hid (fault_bad r u s a c)
    clear k c
    go_enter Tryd.func9, Tryd.ntmps9
    go_wp2_with (go_at_call 8; refine (K.out _).mono ?_; rintro e w1 ⟨rfl, hb⟩; obtain ⟨os, d, rfl⟩ := ext_of_below hb; clear hb)
    refine bodyPost_ret (v := .tuple #[bucketV 0 0 0 0, .int .i64 6]) (by simp [results, Tryd.results9, go_sem]) rfl ⟨rfl, ?_⟩
    (repeat' (first | (with_reducible exact Below.refl _ _) | (with_reducible assumption) | (with_reducible refine Below.ext ?_ ?_ _ _) | (with_reducible refine Below.alloc ?_ ?_ _) | (with_reducible refine Below.setCell ?_ ?_ _) | (with_reducible refine Below.drew ?_) | (with_reducible refine below_draws ?_ _) | go_size | (simp [size_ext]; done) | (simp [size_ext]; omega)))

set_option maxHeartbeats 1000000 in
theorem ref_ok (r u s a now : Int) (k : BOk r u s a) (h1 : a ≤ now) (h2 : now ≤ 2147483647) (w : World) :
    Calls Tryd.prog 9 #[bucketV r u s a, .int .i64 now] w fun e w' => e = .returned (.tuple #[bucketV r u (fillN r u s a now) now, .int .i64 0]) ∧ Below w.heap.size w w' := by
  obtain ⟨m0, m1⟩ := fill_bound k h1 h2
  have K := hid (fault_ok r u s a k)
  obtain ⟨r0, r1, u0, u1, hh0, hh1, a0, a1, hu⟩ := k
  by_cases c : u < s + r * (now - a)
  all_goals
    go_enter Tryd.func9, Tryd.ntmps9
    go_wp2_with (go_at_call 8; refine (K.out _).mono ?_; rintro e w1 ⟨rfl, hb⟩; obtain ⟨os, d, rfl⟩ := ext_of_below hb; clear hb)
    all_goals
      refine bodyPost_ret (v := .tuple #[bucketV r u (fillN r u s a now) now, .int .i64 0]) (by simp [results, Tryd.results9, go_sem]; first | omega | (intros; omega)) rfl ⟨rfl, by (repeat' (first | (with_reducible exact Below.refl _ _) | (with_reducible assumption) | (with_reducible refine Below.ext ?_ ?_ _ _) | (with_reducible refine Below.alloc ?_ ?_ _) | (with_reducible refine Below.setCell ?_ ?_ _) | (with_reducible refine Below.drew ?_) | (with_reducible refine below_draws ?_ _) | go_size | (simp [size_ext]; done) | (simp [size_ext]; omega)))⟩
end Go.Proofs.YtbpflpmhnmdeoaaDoor
