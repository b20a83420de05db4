/- One node of a rule: takes, within, node1. -/
import Derived.Test.YtemgbfppdopfbaaDoorRuleA
import Derived.Test.YtemgbfppdopfbaaDoorNameA
namespace Go.Proofs.YtemgbfppdopfbaaDoor
open Go.RowKit
set_option linter.unusedVariables false
set_option linter.unusedSimpArgs false

theorem takes_any (op : Int) (w : World) : Calls Tryd.prog 56 #[.int .i64 op] w fun e w' => e = .returned (.int .i64 (takesN op : Int)) ∧ w' = w := by
  by_cases h8 : op = 8
  · subst h8
    go_enter Tryd.func56, Tryd.ntmps56
    go_wp2
    go_ret
    exact ⟨rfl, rfl⟩
  · by_cases h9 : op = 9
    · subst h9
      go_enter Tryd.func56, Tryd.ntmps56
      go_wp2
      go_ret
      exact ⟨rfl, rfl⟩
    · by_cases h10 : op = 10
      · subst h10
        go_enter Tryd.func56, Tryd.ntmps56
        go_wp2
        go_ret
        exact ⟨rfl, rfl⟩
      · have ht : takesN op = 0 := by unfold takesN; rw [if_neg h8, if_neg (by omega)]
        rw [ht]
        have b8 : (op == 8) = false := beq_eq_false_iff_ne.2 h8
        have b9 : (op == 9) = false := beq_eq_false_iff_ne.2 h9
        have b10 : (op == 10) = false := beq_eq_false_iff_ne.2 h10
        go_enter Tryd.func56, Tryd.ntmps56
        go_wp2
        go_ret
        exact ⟨rfl, rfl⟩

def matchTail (m : MT) : Int := if m.1 = 2 then nameErr m.2.2.1 else if m.1 = 7 ∧ 16 < m.2.2.2.1.length then 6 else if m.2.1 < 0 ∨ mostM m < m.2.1 then 6 else 0
theorem within_two (w : World) {A A' : Option Addr} {n c n' c' : Nat} {l : List ByteArray} (N : Int) (h1 : Rd strR w w.heap.size A n c l) :
    Calls Tryd.prog 68 #[.agg #[.int .i64 2, .int .i64 N, .slice A n c, .slice A' n' c']] w fun e w' => e = .returned (errV (nameErr l)) ∧ Below w.heap.size w w' := by
  have CC := hid fun w' (hb : Below w.heap.size w w') => name_check w' A n c l _ (h1.later hb)
  clear h1
  have tk0 : True := trivial; have tk1 : True := trivial; have tk2 : True := trivial; have tk3 : True := trivial; have tk4 : True := trivial; have tk5 : True := trivial; have tk6 : True := trivial; have tk7 : True := trivial; have tk8 : True := trivial; have tk9 : True := trivial; have tk10 : True := trivial; have tk11 : True := trivial; have tk12 : True := trivial
  go_enter Tryd.func68, Tryd.ntmps68
  go_wp2_with (go_at_call 33; have _t := tk1; refine (CC.out _ (by (repeat' (first | (with_reducible exact Below.refl _ _) | (with_reducible assumption) | (with_reducible refine below_ext0 ?_ _ _) | (with_reducible refine below_alloc0 ?_ _) | (with_reducible refine Below.ext ?_ ?_ _ _) | (with_reducible refine Below.alloc ?_ ?_ _) | (with_reducible refine Below.setCell ?_ ?_ _) | (with_reducible refine Below.drew ?_) | (with_reducible refine below_draws ?_ _) | go_size | (simp [size_ext]; done) | (simp [size_ext]; omega))))).mono ?_; rintro e w1 ⟨rfl, hw⟩; subst w1; clear tk1)
  go_ret
  exact ⟨rfl, (by (repeat' (first | (with_reducible exact Below.refl _ _) | (with_reducible assumption) | (with_reducible refine below_ext0 ?_ _ _) | (with_reducible refine below_alloc0 ?_ _) | (with_reducible refine Below.ext ?_ ?_ _ _) | (with_reducible refine Below.alloc ?_ ?_ _) | (with_reducible refine Below.setCell ?_ ?_ _) | (with_reducible refine Below.drew ?_) | (with_reducible refine below_draws ?_ _) | go_size | (simp [size_ext]; done) | (simp [size_ext]; omega))))⟩
/-- by the most it may be -/
def rangeE (N most : Int) : Int := if N < 0 ∨ most < N then 6 else 0
set_option maxHeartbeats 4000000 in
theorem within_num (w : World) {A A' : Option Addr} {n c n' c' : Nat} (op N most : Int) (hop : (op = 3 ∨ op = 4) ∧ most = 65535 ∨ op = 5 ∧ most = 15 ∨ (op = 1 ∨ op = 6 ∨ op = 8 ∨ op = 9 ∨ op = 10) ∧ most = 0) :
    Calls Tryd.prog 68 #[.agg #[.int .i64 op, .int .i64 N, .slice A n c, .slice A' n' c']] w fun e w' => e = .returned (errV (rangeE N most)) ∧ Below w.heap.size w w' := by
  by_cases h0 : N < 0
  · rw [show rangeE N most = 6 from if_pos (.inl h0)]
    rcases hop with ⟨rfl | rfl, rfl⟩ | ⟨rfl, rfl⟩ | ⟨rfl | rfl | rfl | rfl | rfl, rfl⟩
    all_goals
      go_enter Tryd.func68, Tryd.ntmps68
      go_wp2
      go_ret
      exact ⟨rfl, (by (repeat' (first | (with_reducible exact Below.refl _ _) | (with_reducible assumption) | (with_reducible refine below_ext0 ?_ _ _) | (with_reducible refine below_alloc0 ?_ _) | (with_reducible refine Below.ext ?_ ?_ _ _) | (with_reducible refine Below.alloc ?_ ?_ _) | (with_reducible refine Below.setCell ?_ ?_ _) | (with_reducible refine Below.drew ?_) | (with_reducible refine below_draws ?_ _) | go_size | (simp [size_ext]; done) | (simp [size_ext]; omega))))⟩
  · by_cases h1 : most < N
    · rw [show rangeE N most = 6 from if_pos (.inr h1)]
      rcases hop with ⟨rfl | rfl, rfl⟩ | ⟨rfl, rfl⟩ | ⟨rfl | rfl | rfl | rfl | rfl, rfl⟩
      all_goals
        go_enter Tryd.func68, Tryd.ntmps68
        go_wp2
        go_ret
        exact ⟨rfl, (by (repeat' (first | (with_reducible exact Below.refl _ _) | (with_reducible assumption) | (with_reducible refine below_ext0 ?_ _ _) | (with_reducible refine below_alloc0 ?_ _) | (with_reducible refine Below.ext ?_ ?_ _ _) | (with_reducible refine Below.alloc ?_ ?_ _) | (with_reducible refine Below.setCell ?_ ?_ _) | (with_reducible refine Below.drew ?_) | (with_reducible refine below_draws ?_ _) | go_size | (simp [size_ext]; done) | (simp [size_ext]; omega))))⟩
    · rw [show rangeE N most = 0 from if_neg (by omega)]
      rcases hop with ⟨rfl | rfl, rfl⟩ | ⟨rfl, rfl⟩ | ⟨rfl | rfl | rfl | rfl | rfl, rfl⟩
      all_goals
        go_enter Tryd.func68, Tryd.ntmps68
        go_wp2
        go_ret
        exact ⟨rfl, (by (repeat' (first | (with_reducible exact Below.refl _ _) | (with_reducible assumption) | (with_reducible refine below_ext0 ?_ _ _) | (with_reducible refine below_alloc0 ?_ _) | (with_reducible refine Below.ext ?_ ?_ _ _) | (with_reducible refine Below.alloc ?_ ?_ _) | (with_reducible refine Below.setCell ?_ ?_ _) | (with_reducible refine Below.drew ?_) | (with_reducible refine below_draws ?_ _) | go_size | (simp [size_ext]; done) | (simp [size_ext]; omega))))⟩
set_option maxHeartbeats 4000000 in
theorem within_seven (w : World) {A A' : Option Addr} {n c n' c' : Nat} (N : Int) (hm : n' ≤ maxLen) :
    Calls Tryd.prog 68 #[.agg #[.int .i64 7, .int .i64 N, .slice A n c, .slice A' n' c']] w fun e w' => e = .returned (errV (if 16 < n' then 6 else rangeE N (8 * (n' : Int)))) ∧ Below w.heap.size w w' := by
  unfold maxLen at hm
  by_cases hl : 16 < n'
  · rw [if_pos hl]
    have t0 : (16 : Int) < (n' : Int) := by omega
    go_enter Tryd.func68, Tryd.ntmps68
    go_wp2
    go_ret
    exact ⟨rfl, (by (repeat' (first | (with_reducible exact Below.refl _ _) | (with_reducible assumption) | (with_reducible refine below_ext0 ?_ _ _) | (with_reducible refine below_alloc0 ?_ _) | (with_reducible refine Below.ext ?_ ?_ _ _) | (with_reducible refine Below.alloc ?_ ?_ _) | (with_reducible refine Below.setCell ?_ ?_ _) | (with_reducible refine Below.drew ?_) | (with_reducible refine below_draws ?_ _) | go_size | (simp [size_ext]; done) | (simp [size_ext]; omega))))⟩
  · rw [if_neg hl]
    have t0 : ¬ (16 : Int) < (n' : Int) := by omega
    by_cases h0 : N < 0
    · rw [show rangeE N (8 * (n' : Int)) = 6 from if_pos (.inl h0)]
      go_enter Tryd.func68, Tryd.ntmps68
      go_wp2
      go_ret
      exact ⟨rfl, (by (repeat' (first | (with_reducible exact Below.refl _ _) | (with_reducible assumption) | (with_reducible refine below_ext0 ?_ _ _) | (with_reducible refine below_alloc0 ?_ _) | (with_reducible refine Below.ext ?_ ?_ _ _) | (with_reducible refine Below.alloc ?_ ?_ _) | (with_reducible refine Below.setCell ?_ ?_ _) | (with_reducible refine Below.drew ?_) | (with_reducible refine below_draws ?_ _) | go_size | (simp [size_ext]; done) | (simp [size_ext]; omega))))⟩
    · by_cases h1 : 8 * (n' : Int) < N
      · rw [show rangeE N (8 * (n' : Int)) = 6 from if_pos (.inr h1)]
        go_enter Tryd.func68, Tryd.ntmps68
        go_wp2
        go_ret
        exact ⟨rfl, (by (repeat' (first | (with_reducible exact Below.refl _ _) | (with_reducible assumption) | (with_reducible refine below_ext0 ?_ _ _) | (with_reducible refine below_alloc0 ?_ _) | (with_reducible refine Below.ext ?_ ?_ _ _) | (with_reducible refine Below.alloc ?_ ?_ _) | (with_reducible refine Below.setCell ?_ ?_ _) | (with_reducible refine Below.drew ?_) | (with_reducible refine below_draws ?_ _) | go_size | (simp [size_ext]; done) | (simp [size_ext]; omega))))⟩
      · rw [show rangeE N (8 * (n' : Int)) = 0 from if_neg (by omega)]
        go_enter Tryd.func68, Tryd.ntmps68
        go_wp2
        go_ret
        exact ⟨rfl, (by (repeat' (first | (with_reducible exact Below.refl _ _) | (with_reducible assumption) | (with_reducible refine below_ext0 ?_ _ _) | (with_reducible refine below_alloc0 ?_ _) | (with_reducible refine Below.ext ?_ ?_ _ _) | (with_reducible refine Below.alloc ?_ ?_ _) | (with_reducible refine Below.setCell ?_ ?_ _) | (with_reducible refine Below.drew ?_) | (with_reducible refine below_draws ?_ _) | go_size | (simp [size_ext]; done) | (simp [size_ext]; omega))))⟩
end Go.Proofs.YtemgbfppdopfbaaDoor
