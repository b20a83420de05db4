/- subnet's functions: size, check, Mask, In. -/
import Derived.Test.YtbpflpmhnmdeoaaDoorMask
import Derived.Test.YtbpflpmhnmdeoaaDoorEqualBytes
namespace Go.Proofs.YtbpflpmhnmdeoaaDoor
open Go.RowKit
set_option linter.unusedVariables false
set_option linter.unusedSimpArgs false

@[reducible] def subnetV (f s sc : Int) (A : Option Addr) (n c : Nat) : Value := .agg #[.int .i64 f, .int .i64 s, .int .i64 sc, .slice A n c]
/-- a subnet without a fault -/
structure SOk (f s sc : Int) (n : Nat) : Prop where
  fam : (f = 1 ∧ n = 4) ∨ (f = 2 ∧ n = 16)
  s0 : 0 ≤ s
  s1 : s ≤ 8 * (n : Int)
  sc0 : 0 ≤ sc
  sc1 : sc ≤ 8 * (n : Int)
theorem SOk_iff (f s sc : Int) (n : Nat) : SOk f s sc n ↔ (((f = 1 ∧ n = 4) ∨ (f = 2 ∧ n = 16)) ∧ 0 ≤ s ∧ s ≤ 8 * (n : Int) ∧ 0 ≤ sc ∧ sc ≤ 8 * (n : Int)) := ⟨fun ⟨a, b, c, d, e⟩ => ⟨a, b, c, d, e⟩, fun ⟨a, b, c, d, e⟩ => ⟨a, b, c, d, e⟩⟩
/-- what is wrong with it -/
def errS (f s sc : Int) (n : Nat) : Int :=
  if f = 1 then (if n = 4 then (if 0 ≤ s ∧ s ≤ 32 ∧ 0 ≤ sc ∧ sc ≤ 32 then 0 else 6) else 2)
  else if f = 2 then (if n = 16 then (if 0 ≤ s ∧ s ≤ 128 ∧ 0 ≤ sc ∧ sc ≤ 128 then 0 else 6) else 2) else 6

theorem size_any (f : Int) (w : World) : Calls Tryd.prog 43 #[.int .i64 f] w fun e w' => e = .returned (.int .i64 (if f = 1 then 4 else if f = 2 then 16 else 0)) ∧ w' = w := by
  by_cases h1 : f = 1
  · subst h1
    go_enter Tryd.func43, Tryd.ntmps43
    go_wp2
    go_ret
    exact ⟨rfl, rfl⟩
  · by_cases h2 : f = 2
    · subst h2
      go_enter Tryd.func43, Tryd.ntmps43
      go_wp2
      go_ret
      exact ⟨rfl, rfl⟩
    · have e1 : (f == 1) = false := by simp [h1]
      have e2 : (f == 2) = false := by simp [h2]
      rw [if_neg h1, if_neg h2]
      clear h1 h2
      go_enter Tryd.func43, Tryd.ntmps43
      go_wp2
      go_ret
      exact ⟨rfl, rfl⟩

set_option maxHeartbeats 2000000 in
theorem check_ok (f s sc : Int) (A : Option Addr) (n c : Nat) (hk : SOk f s sc n) (w : World) : Calls Tryd.prog 40 #[subnetV f s sc A n c] w fun e w' => e = .returned .nilIface ∧ w' = w.alloc (.cells #[.int .i64 f, .int .i64 s, .int .i64 sc, .slice A n c] 56) := by
  obtain ⟨hf, s0, s1, sc0, sc1⟩ := hk
  rcases hf with ⟨rfl, rfl⟩ | ⟨rfl, rfl⟩
  all_goals
    go_enter Tryd.func40, Tryd.ntmps40
    go_wp2
    go_ret
    exact ⟨rfl, rfl⟩

set_option maxHeartbeats 2000000 in
theorem check_bad (f s sc : Int) (A : Option Addr) (n c : Nat) (hk : ¬ SOk f s sc n) (w : World) : Calls Tryd.prog 40 #[subnetV f s sc A n c] w fun e w' => e = .returned (.iface 28 (.int .i64 (errS f s sc n))) ∧ w' = w.alloc (.cells #[.int .i64 f, .int .i64 s, .int .i64 sc, .slice A n c] 56) := by
  rw [SOk_iff] at hk
  by_cases h1 : f = 1
  · subst h1
    by_cases hn : n = 4
    · subst hn
      have hr : errS 1 s sc 4 = 6 := by unfold errS; rw [if_pos rfl, if_pos rfl, if_neg (by omega)]
      rw [hr]
      have hways : s < 0 ∨ (0 ≤ s ∧ 32 < s) ∨ ((0 ≤ s ∧ s ≤ 32) ∧ (sc < 0 ∨ (0 ≤ sc ∧ 32 < sc))) := by omega
      clear hk hr
      rcases hways with h | ⟨_, h⟩ | ⟨⟨_, _⟩, h | ⟨_, h⟩⟩
      all_goals
        go_enter Tryd.func40, Tryd.ntmps40
        go_wp2
        go_ret
        exact ⟨rfl, rfl⟩
    · have hr : errS 1 s sc n = 2 := by unfold errS; rw [if_pos rfl, if_neg hn]
      rw [hr]
      have hv : ((n : Int) != 4) = true := by rw [bne_iff_ne]; omega
      clear hk hr hn
      go_enter Tryd.func40, Tryd.ntmps40
      go_wp2
      go_ret
      exact ⟨rfl, rfl⟩
  · by_cases h2 : f = 2
    · subst h2
      by_cases hn : n = 16
      · subst hn
        have hr : errS 2 s sc 16 = 6 := by unfold errS; rw [if_neg (by decide), if_pos rfl, if_pos rfl, if_neg (by omega)]
        rw [hr]
        have hways : s < 0 ∨ (0 ≤ s ∧ 128 < s) ∨ ((0 ≤ s ∧ s ≤ 128) ∧ (sc < 0 ∨ (0 ≤ sc ∧ 128 < sc))) := by omega
        clear hk hr
        rcases hways with h | ⟨_, h⟩ | ⟨⟨_, _⟩, h | ⟨_, h⟩⟩
        all_goals
          go_enter Tryd.func40, Tryd.ntmps40
          go_wp2
          go_ret
          exact ⟨rfl, rfl⟩
      · have hr : errS 2 s sc n = 2 := by unfold errS; rw [if_neg (by decide), if_pos rfl, if_neg hn]
        rw [hr]
        have hv : ((n : Int) != 16) = true := by rw [bne_iff_ne]; omega
        clear hk hr hn
        go_enter Tryd.func40, Tryd.ntmps40
        go_wp2
        go_ret
        exact ⟨rfl, rfl⟩
    · have hr : errS f s sc n = 6 := by unfold errS; rw [if_neg h1, if_neg h2]
      rw [hr]
      have e1 : (f == 1) = false := by simp [h1]
      have e2 : (f == 2) = false := by simp [h2]
      clear hk hr h1 h2
      go_enter Tryd.func40, Tryd.ntmps40
      go_wp2
      go_ret
      exact ⟨rfl, rfl⟩

/-! Mask -/
set_option maxHeartbeats 2000000 in
theorem Mask_ok (w : World) (A : Option Addr) (n c : Nat) (l : List UInt8) (B : Nat) (h : Rd u8R w B A n c l) (m : Int) (m0 : 0 ≤ m) (m1 : m ≤ 8 * (n : Int)) :
    Calls Tryd.prog 22 #[.slice A n c, .int .i64 m] w fun e w' => ∃ A' c', e = .returned (.tuple #[.slice A' n c', .nilIface]) ∧ Rd u8R w' w'.heap.size A' n c' (maskL l m) ∧ Below w.heap.size w w' := by
  have hlim := h.lim
  simp only [u8R, Nat.mul_one] at hlim
  have hl := hid h.len
  have CM := hid (mask_any w A n c l B h m (by omega) (by omega))
  clear h
  go_enter Tryd.func22, Tryd.ntmps22
  go_wp2_with fail
  refine CM.out.mono ?_
  rintro e w1 ⟨v, rfl, hown, hlow⟩
  have hrd := rd_of_own (R := u8R) hown (rels_u8.2 rfl) (by rw [maskL_len]; exact hl.out) (Nat.le_refl _) (by simpa [u8R] using hlim) (by decide)
  obtain ⟨A', c', rfl, hr⟩ := hrd
  have HR := hid hr
  clear hown hr
  go_wp2
  go_ret2
  exact ⟨A', c', rfl, HR.out, hlow⟩
set_option maxHeartbeats 2000000 in
theorem Mask_bad (w : World) (A : Option Addr) (n c : Nat) (hn : n ≤ 140737488355328) (m : Int) (h : ¬ (0 ≤ m ∧ m ≤ 8 * (n : Int))) :
    Calls Tryd.prog 22 #[.slice A n c, .int .i64 m] w fun e w' => e = .returned (.tuple #[.slice none 0 0, .iface 28 (.int .i64 6)]) ∧ Below w.heap.size w w' := by
  have hways : m < 0 ∨ (0 ≤ m ∧ 8 * (n : Int) < m) := by omega
  clear h
  rcases hways with h | ⟨_, h⟩
  all_goals
    go_enter Tryd.func22, Tryd.ntmps22
    go_wp2
    go_ret2
    exact ⟨rfl, Below.refl _ _⟩
end Go.Proofs.YtbpflpmhnmdeoaaDoor
