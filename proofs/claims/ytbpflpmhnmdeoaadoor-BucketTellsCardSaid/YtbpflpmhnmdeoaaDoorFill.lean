/- The bucket's Fill and Take. -/
import Derived.Test.YtbpflpmhnmdeoaaDoorBucket
namespace Go.Proofs.YtbpflpmhnmdeoaaDoor
open Go.RowKit

/-! Fill -/
/-- what is there at now -/
@[reducible] def fillN (r u s a now : Int) : Int := if u < s + r * (now - a) then u else s + r * (now - a)

theorem fill_bound {r u s a now : Int} (k : BOk r u s a) (h1 : a ≤ now) (h2 : now ≤ 2147483647) :
    0 ≤ r * (now - a) ∧ r * (now - a) ≤ 2147483647 * 2147483647 := by
  obtain ⟨r0, r1, u0, u1, hh0, hh1, a0, a1, hu⟩ := k
  refine ⟨Int.mul_nonneg r0 (by omega), ?_⟩
  exact Int.le_trans (Int.mul_le_mul_of_nonneg_right r1 (by omega)) (Int.mul_le_mul_of_nonneg_left (by omega) (by omega))

set_option maxHeartbeats 1000000 in
theorem fill_bad (r u s a now : Int) (k : ¬ (BOk r u s a ∧ a ≤ now ∧ now ≤ 2147483647)) (w : World) :
    Calls Tryd.prog 10 #[bucketV r u s a, .int .i64 now] w fun e w' => e = .returned (.tuple #[bucketV 0 0 0 0, .iface 28 (.int .i64 6)]) ∧ Below w.heap.size w w' := by
  by_cases c : BOk r u s a
  · have K : Hid (BOk r u s a) := c
    have hn : now < a ∨ (a ≤ now ∧ 2147483647 < now) := by
      have : ¬ (a ≤ now ∧ now ≤ 2147483647) := fun s => k ⟨c, s⟩
      omega
    clear k c
    rcases hn with hn | ⟨_, hn⟩
    all_goals
      go_enter Tryd.func10, Tryd.ntmps10
      go_wp2_with fail
      refine (check_ok r u s a K.out _).mono ?_
      rintro e w1 ⟨rfl, rfl⟩
      go_wp2
      refine bodyPost_ret (v := .tuple #[bucketV 0 0 0 0, .iface 28 (.int .i64 6)]) (by simp [results, Tryd.results10, go_sem]) rfl ⟨rfl, ?_⟩
      (repeat' (first | (with_reducible exact Below.refl _ _) | (with_reducible assumption) | (with_reducible refine Below.ext ?_ ?_ _ _) | (with_reducible refine Below.alloc ?_ ?_ _) | (with_reducible refine Below.setCell ?_ ?_ _) | (with_reducible refine Below.drew ?_) | (with_reducible refine below_draws ?_ _) | go_size | (simp [size_ext]; done) | (simp [size_ext]; omega)))
  · have K : Hid (¬ BOk r u s a) := c
    clear k c
    go_enter Tryd.func10, Tryd.ntmps10
    go_wp2_with fail
    refine (check_bad r u s a K.out _).mono ?_
    rintro e w1 ⟨rfl, rfl⟩
    go_wp2
    refine bodyPost_ret (v := .tuple #[bucketV 0 0 0 0, .iface 28 (.int .i64 6)]) (by simp [results, Tryd.results10, go_sem]) rfl ⟨rfl, ?_⟩
    (repeat' (first | (with_reducible exact Below.refl _ _) | (with_reducible assumption) | (with_reducible refine Below.ext ?_ ?_ _ _) | (with_reducible refine Below.alloc ?_ ?_ _) | (with_reducible refine Below.setCell ?_ ?_ _) | (with_reducible refine Below.drew ?_) | (with_reducible refine below_draws ?_ _) | go_size | (simp [size_ext]; done) | (simp [size_ext]; omega)))

set_option maxHeartbeats 1000000 in
theorem fill_ok (r u s a now : Int) (k : BOk r u s a) (h1 : a ≤ now) (h2 : now ≤ 2147483647) (w : World) :
    Calls Tryd.prog 10 #[bucketV r u s a, .int .i64 now] w fun e w' => e = .returned (.tuple #[bucketV r u (fillN r u s a now) now, .nilIface]) ∧ Below w.heap.size w w' := by
  obtain ⟨m0, m1⟩ := fill_bound k h1 h2
  have K : Hid (BOk r u s a) := k
  obtain ⟨r0, r1, u0, u1, hh0, hh1, a0, a1, hu⟩ := k
  by_cases c : u < s + r * (now - a)
  all_goals
    go_enter Tryd.func10, Tryd.ntmps10
    go_wp2_with fail
    refine (check_ok r u s a K.out _).mono ?_
    rintro e w1 ⟨rfl, rfl⟩
    go_wp2
    all_goals
      refine bodyPost_ret (v := .tuple #[bucketV r u (fillN r u s a now) now, .nilIface]) (by simp [results, Tryd.results10, go_sem]; first | omega | (intros; omega)) rfl ⟨rfl, by (repeat' (first | (with_reducible exact Below.refl _ _) | (with_reducible assumption) | (with_reducible refine Below.ext ?_ ?_ _ _) | (with_reducible refine Below.alloc ?_ ?_ _) | (with_reducible refine Below.setCell ?_ ?_ _) | (with_reducible refine Below.drew ?_) | (with_reducible refine below_draws ?_ _) | go_size | (simp [size_ext]; done) | (simp [size_ext]; omega)))⟩

/-- whatever Fill is asked: a bucket, and nil or an error -/
theorem fill_some (r u s a now : Int) : ∃ r' u' s' a' E, (E = .nilIface ∨ E = .iface 28 (.int .i64 6)) ∧
    ∀ w, Calls Tryd.prog 10 #[bucketV r u s a, .int .i64 now] w fun e w' => e = .returned (.tuple #[bucketV r' u' s' a', E]) ∧ Below w.heap.size w w' := by
  by_cases k : BOk r u s a ∧ a ≤ now ∧ now ≤ 2147483647
  · exact ⟨_, _, _, _, _, .inl rfl, fill_ok r u s a now k.1 k.2.1 k.2.2⟩
  · exact ⟨_, _, _, _, _, .inr rfl, fill_bad r u s a now k⟩

theorem BOk.fill {r u s a now : Int} (k : BOk r u s a) (h1 : a ≤ now) (h2 : now ≤ 2147483647) : BOk r u (fillN r u s a now) now := by
  have hb := fill_bound k h1 h2
  obtain ⟨r0, r1, u0, u1, s0, s1, a0, a1, hu⟩ := k
  refine ⟨r0, r1, u0, u1, ?_, ?_, by omega, h2, ?_⟩ <;> (unfold fillN; split <;> omega)

/-- filled at one time and then at a later one -/
theorem fill_fill {r u s a now later : Int} (k : BOk r u s a) (h1 : a ≤ now) (h2 : now ≤ later) (h3 : later ≤ 2147483647) :
    fillN r u (fillN r u s a now) now later = fillN r u s a later := by
  have hb := fill_bound k h1 (by omega)
  have hb2 := fill_bound (k.fill h1 (by omega)) h2 h3
  have e : r * (later - a) = r * (now - a) + r * (later - now) := by rw [← Int.mul_add]; congr 1; omega
  unfold fillN
  rw [e]
  generalize r * (now - a) = p at *
  generalize r * (later - now) = q at *
  split <;> split <;> (try split) <;> omega

theorem fill_mono {r u s c a now : Int} (h : s ≤ c) : fillN r u s a now ≤ fillN r u c a now := by
  unfold fillN
  generalize r * (now - a) = p
  split <;> split <;> omega

/-! Take -/
set_option maxHeartbeats 1000000 in
theorem take_bad (r u s a now n : Int) (k : ¬ (BOk r u s a ∧ a ≤ now ∧ now ≤ 2147483647)) (w : World) :
    Calls Tryd.prog 11 #[bucketV r u s a, .int .i64 now, .int .i64 n] w fun e w' => e = .returned (.tuple #[bucketV 0 0 0 0, .bool false, .iface 28 (.int .i64 6)]) ∧ Below w.heap.size w w' := by
  have K := hid k
  clear k
  go_enter Tryd.func11, Tryd.ntmps11
  go_wp2_with fail
  refine (fill_bad r u s a now K.out _).mono ?_
  rintro e w1 ⟨rfl, hb⟩
  obtain ⟨os, d, rfl⟩ := ext_of_below hb
  clear hb
  go_wp2
  refine bodyPost_ret (v := .tuple #[bucketV 0 0 0 0, .bool false, .iface 28 (.int .i64 6)]) (by simp [results, Tryd.results11, go_sem]) rfl ⟨rfl, ?_⟩
  (repeat' (first | (with_reducible exact Below.refl _ _) | (with_reducible assumption) | (with_reducible refine Below.ext ?_ ?_ _ _) | (with_reducible refine Below.alloc ?_ ?_ _) | (with_reducible refine Below.setCell ?_ ?_ _) | (with_reducible refine Below.drew ?_) | (with_reducible refine below_draws ?_ _) | go_size | (simp [size_ext]; done) | (simp [size_ext]; omega)))

set_option maxHeartbeats 1000000 in
theorem take_neg (r u s a now n : Int) (k : BOk r u s a) (h1 : a ≤ now) (h2 : now ≤ 2147483647) (hn : n < 0) (w : World) :
    Calls Tryd.prog 11 #[bucketV r u s a, .int .i64 now, .int .i64 n] w fun e w' => e = .returned (.tuple #[bucketV 0 0 0 0, .bool false, .iface 28 (.int .i64 6)]) ∧ Below w.heap.size w w' := by
  have K := hid k
  clear k
  obtain ⟨F, hF⟩ : ∃ F, fillN r u s a now = F := ⟨_, rfl⟩
  have HF := hid hF
  have cF := fill_ok r u s a now K.out h1 h2
  rw [hF] at cF
  have CF := hid cF
  clear hF cF
  go_enter Tryd.func11, Tryd.ntmps11
  go_wp2_with fail
  refine (CF.out _).mono ?_
  rintro e w1 ⟨rfl, hb⟩
  obtain ⟨os, d, rfl⟩ := ext_of_below hb
  clear hb
  go_wp2
  refine bodyPost_ret (v := .tuple #[bucketV 0 0 0 0, .bool false, .iface 28 (.int .i64 6)]) (by simp [results, Tryd.results11, go_sem]) rfl ⟨rfl, ?_⟩
  (repeat' (first | (with_reducible exact Below.refl _ _) | (with_reducible assumption) | (with_reducible refine Below.ext ?_ ?_ _ _) | (with_reducible refine Below.alloc ?_ ?_ _) | (with_reducible refine Below.setCell ?_ ?_ _) | (with_reducible refine Below.drew ?_) | (with_reducible refine below_draws ?_ _) | go_size | (simp [size_ext]; done) | (simp [size_ext]; omega)))

set_option maxHeartbeats 1000000 in
theorem take_ok (r u s a now n : Int) (k : BOk r u s a) (h1 : a ≤ now) (h2 : now ≤ 2147483647) (hn : 0 ≤ n) (w : World) :
    Calls Tryd.prog 11 #[bucketV r u s a, .int .i64 now, .int .i64 n] w fun e w' =>
      e = .returned (.tuple #[bucketV r u (if n ≤ fillN r u s a now then fillN r u s a now - n else fillN r u s a now) now, .bool (decide (n ≤ fillN r u s a now)), .nilIface]) ∧ Below w.heap.size w w' := by
  have b0 : 0 ≤ fillN r u s a now := by
    have := fill_bound k h1 h2
    have := k.u0
    have := k.h0
    unfold fillN
    split <;> omega
  have b1 : fillN r u s a now ≤ 2147483647 := by
    have := k.u1
    unfold fillN
    split <;> omega
  have K := hid k
  clear k
  have cF := fill_ok r u s a now K.out h1 h2
  generalize fillN r u s a now = F at *
  have CF := hid cF
  clear cF
  by_cases c : F < n
  all_goals
    go_enter Tryd.func11, Tryd.ntmps11
    go_wp2_with fail
    refine (CF.out _).mono ?_
    rintro e w1 ⟨rfl, hb⟩
    obtain ⟨os, d, rfl⟩ := ext_of_below hb
    clear hb
    go_wp2
  · refine bodyPost_ret (v := .tuple #[bucketV r u F now, .bool false, .nilIface]) (by simp [results, Tryd.results11, go_sem]) rfl ⟨rfl, ?_⟩
    (repeat' (first | (with_reducible exact Below.refl _ _) | (with_reducible assumption) | (with_reducible refine Below.ext ?_ ?_ _ _) | (with_reducible refine Below.alloc ?_ ?_ _) | (with_reducible refine Below.setCell ?_ ?_ _) | (with_reducible refine Below.drew ?_) | (with_reducible refine below_draws ?_ _) | go_size | (simp [size_ext]; done) | (simp [size_ext]; omega)))
  · refine bodyPost_ret (v := .tuple #[bucketV r u (F - n) now, .bool true, .nilIface]) (by simp [results, Tryd.results11, go_sem]) rfl ⟨rfl, ?_⟩
    (repeat' (first | (with_reducible exact Below.refl _ _) | (with_reducible assumption) | (with_reducible refine Below.ext ?_ ?_ _ _) | (with_reducible refine Below.alloc ?_ ?_ _) | (with_reducible refine Below.setCell ?_ ?_ _) | (with_reducible refine Below.drew ?_) | (with_reducible refine below_draws ?_ _) | go_size | (simp [size_ext]; done) | (simp [size_ext]; omega)))

end Go.Proofs.YtbpflpmhnmdeoaaDoor
