/- Take, way by way. -/
import Derived.Test.YtbpflpmhnmdeoaaDoorFill
namespace Go.Proofs.YtbpflpmhnmdeoaaDoor
open Go.RowKit

theorem take_yes (r u s a now n : Int) (k : BOk r u s a) (h1 : a ≤ now) (h2 : now ≤ 2147483647) (hn : 0 ≤ n) (hf : n ≤ fillN r u s a now) (w : World) :
    Calls Tryd.prog 11 #[bucketV r u s a, .int .i64 now, .int .i64 n] w fun e w' =>
      e = .returned (.tuple #[bucketV r u (fillN r u s a now - n) now, .bool true, .nilIface]) ∧ Below w.heap.size w w' := by
  have := take_ok r u s a now n k h1 h2 hn w
  rwa [if_pos hf, decide_eq_true hf] at this
theorem take_no (r u s a now n : Int) (k : BOk r u s a) (h1 : a ≤ now) (h2 : now ≤ 2147483647) (hn : 0 ≤ n) (hf : fillN r u s a now < n) (w : World) :
    Calls Tryd.prog 11 #[bucketV r u s a, .int .i64 now, .int .i64 n] w fun e w' =>
      e = .returned (.tuple #[bucketV r u (fillN r u s a now) now, .bool false, .nilIface]) ∧ Below w.heap.size w w' := by
  have := take_ok r u s a now n k h1 h2 hn w
  have hf' : ¬ n ≤ fillN r u s a now := by omega
  rwa [if_neg hf', decide_eq_false hf'] at this

theorem take_some (r u s a now n : Int) : ∃ r' u' s' a' ok E, (E = .nilIface ∨ E = .iface 28 (.int .i64 6)) ∧
    ∀ w, Calls Tryd.prog 11 #[bucketV r u s a, .int .i64 now, .int .i64 n] w fun e w' => e = .returned (.tuple #[bucketV r' u' s' a', .bool ok, E]) ∧ Below w.heap.size w w' := by
  by_cases k : BOk r u s a ∧ a ≤ now ∧ now ≤ 2147483647
  · by_cases hn : 0 ≤ n
    · exact ⟨_, _, _, _, _, _, .inl rfl, take_ok r u s a now n k.1 k.2.1 k.2.2 hn⟩
    · exact ⟨_, _, _, _, _, _, .inr rfl, take_neg r u s a now n k.1 k.2.1 k.2.2 (by omega)⟩
  · exact ⟨_, _, _, _, _, _, .inr rfl, take_bad r u s a now n k⟩

theorem fill_same {r u s now : Int} (h : s ≤ u) : fillN r u s now now = s := by
  unfold fillN
  rw [Int.sub_self, Int.mul_zero]
  split <;> omega
theorem fill_le {r u s a now : Int} : fillN r u s a now ≤ u := by
  unfold fillN
  split <;> omega
/-- with less in it, it is as right -/
theorem BOk.less {r u s a c : Int} (k : BOk r u s a) (h0 : 0 ≤ c) (h1 : c ≤ s) : BOk r u c a := by
  obtain ⟨r0, r1, u0, u1, s0, s1, a0, a1, hu⟩ := k
  exact ⟨r0, r1, u0, u1, h0, by omega, a0, a1, by omega⟩
end Go.Proofs.YtbpflpmhnmdeoaaDoor
