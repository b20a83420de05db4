/- The bucket's functions: what each call returns; nothing that was there is changed. -/
import Derived.Test.YtbpflpmhnmdeoaaDoorBase
namespace Go.Proofs.YtbpflpmhnmdeoaaDoor
open Go.RowKit

/-- a bucket as a value -/
@[reducible] def bucketV (r u s a : Int) : Value := .agg #[.int .i64 r, .int .i64 u, .int .i64 s, .int .i64 a]
def MaxT : Int := 2147483647
structure BOk (r u s a : Int) : Prop where
  r0 : 0 ≤ r
  r1 : r ≤ 2147483647
  u0 : 0 ≤ u
  u1 : u ≤ 2147483647
  h0 : 0 ≤ s
  h1 : s ≤ 2147483647
  a0 : 0 ≤ a
  a1 : a ≤ 2147483647
  hu : s ≤ u

set_option maxHeartbeats 400000 in
theorem check_ok (r u s a : Int) (k : BOk r u s a) (w : World) :
    Calls Tryd.prog 7 #[bucketV r u s a] w fun e w' => e = .returned .nilIface ∧ w' = w.alloc (.cells #[.int .i64 r, .int .i64 u, .int .i64 s, .int .i64 a] 23) := by
  obtain ⟨r0, r1, u0, u1, h0, h1, a0, a1, hu⟩ := k
  have i0 : ∀ w, (Instr.index 72 (.agg #[.int .i64 r, .int .i64 u, .int .i64 s, .int .i64 a]) (.int .i64 0)).run Tryd.prog w = .ok (.int .i64 r) w := fun _ => by kernel_rfl
  have i1 : ∀ w, (Instr.index 72 (.agg #[.int .i64 r, .int .i64 u, .int .i64 s, .int .i64 a]) (.int .i64 1)).run Tryd.prog w = .ok (.int .i64 u) w := fun _ => by kernel_rfl
  have i2 : ∀ w, (Instr.index 72 (.agg #[.int .i64 r, .int .i64 u, .int .i64 s, .int .i64 a]) (.int .i64 2)).run Tryd.prog w = .ok (.int .i64 s) w := fun _ => by kernel_rfl
  have i3 : ∀ w, (Instr.index 72 (.agg #[.int .i64 r, .int .i64 u, .int .i64 s, .int .i64 a]) (.int .i64 3)).run Tryd.prog w = .ok (.int .i64 a) w := fun _ => by kernel_rfl
  go_enter Tryd.func7, Tryd.ntmps7
  go_wp2
  refine wp_loop_rounds 5 ?_
  rw [rounds_succ]; go_wp2
  rw [rounds_succ]; go_wp2
  rw [rounds_succ]; go_wp2
  rw [rounds_succ]; go_wp2
  rw [rounds_succ]; go_wp2
  go_ret
  exact ⟨rfl, rfl⟩

theorem BOk_iff (r u s a : Int) : BOk r u s a ↔ (0 ≤ r ∧ r ≤ 2147483647 ∧ 0 ≤ u ∧ u ≤ 2147483647 ∧ 0 ≤ s ∧ s ≤ 2147483647 ∧ 0 ≤ a ∧ a ≤ 2147483647 ∧ s ≤ u) :=
  ⟨fun ⟨a, b, c, d, e, f, g, i, j⟩ => ⟨a, b, c, d, e, f, g, i, j⟩, fun ⟨a, b, c, d, e, f, g, i, j⟩ => ⟨a, b, c, d, e, f, g, i, j⟩⟩
instance (r u s a : Int) : Decidable (BOk r u s a) := decidable_of_iff _ (BOk_iff r u s a).symm

theorem not_BOk {r u s a : Int} (k : ¬ BOk r u s a) :
    r < 0 ∨ (0 ≤ r ∧ 2147483647 < r) ∨ ((0 ≤ r ∧ r ≤ 2147483647) ∧ (u < 0 ∨ (0 ≤ u ∧ 2147483647 < u) ∨ ((0 ≤ u ∧ u ≤ 2147483647) ∧ (s < 0 ∨ (0 ≤ s ∧ 2147483647 < s) ∨ ((0 ≤ s ∧ s ≤ 2147483647) ∧
      (a < 0 ∨ (0 ≤ a ∧ 2147483647 < a) ∨ ((0 ≤ a ∧ a ≤ 2147483647) ∧ u < s))))))) := by
  rw [BOk_iff] at k
  omega

set_option maxHeartbeats 1000000 in
theorem check_bad (r u s a : Int) (k : ¬ BOk r u s a) (w : World) :
    Calls Tryd.prog 7 #[bucketV r u s a] w fun e w' => e = .returned (.iface 28 (.int .i64 6)) ∧ w' = w.alloc (.cells #[.int .i64 r, .int .i64 u, .int .i64 s, .int .i64 a] 23) := by
  have i0 : ∀ w, (Instr.index 72 (.agg #[.int .i64 r, .int .i64 u, .int .i64 s, .int .i64 a]) (.int .i64 0)).run Tryd.prog w = .ok (.int .i64 r) w := fun _ => by kernel_rfl
  have i1 : ∀ w, (Instr.index 72 (.agg #[.int .i64 r, .int .i64 u, .int .i64 s, .int .i64 a]) (.int .i64 1)).run Tryd.prog w = .ok (.int .i64 u) w := fun _ => by kernel_rfl
  have i2 : ∀ w, (Instr.index 72 (.agg #[.int .i64 r, .int .i64 u, .int .i64 s, .int .i64 a]) (.int .i64 2)).run Tryd.prog w = .ok (.int .i64 s) w := fun _ => by kernel_rfl
  have i3 : ∀ w, (Instr.index 72 (.agg #[.int .i64 r, .int .i64 u, .int .i64 s, .int .i64 a]) (.int .i64 3)).run Tryd.prog w = .ok (.int .i64 a) w := fun _ => by kernel_rfl
  rcases not_BOk k with c | ⟨_, c⟩ | ⟨⟨_, _⟩, c | ⟨_, c⟩ | ⟨⟨_, _⟩, c | ⟨_, c⟩ | ⟨⟨_, _⟩, c | ⟨_, c⟩ | ⟨⟨_, _⟩, c⟩⟩⟩⟩
  all_goals
    clear k
    go_enter Tryd.func7, Tryd.ntmps7
    go_wp2
    refine wp_loop_rounds 5 ?_
    repeat (rw [rounds_succ]; go_wp2)
    go_ret
    exact ⟨rfl, rfl⟩

end Go.Proofs.YtbpflpmhnmdeoaaDoor
