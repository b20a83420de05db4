/- One node of a rule: what is wrong with it. -/
import Derived.Test.YtemgbfppdopfbaaDoorRuleB
namespace Go.Proofs.YtemgbfppdopfbaaDoor
open Go.RowKit
set_option linter.unusedVariables false
set_option linter.unusedSimpArgs false

section
variable {A A' : Option Addr} {n c n' c' : Nat} {l : List ByteArray} {ad : List UInt8}
set_option maxHeartbeats 8000000 in
theorem node1_none (w : World) (op N : Int) (hop : op < 1 ∨ 10 < op) :
    Calls Tryd.prog 55 #[.agg #[.int .i64 op, .int .i64 N, .slice A n c, .slice A' n' c']] w fun e w' => e = .returned (errV 1) ∧ Below w.heap.size w w' := by
  have b1 : (op == 1) = false := beq_eq_false_iff_ne.2 (by omega)
  have b2 : (op == 2) = false := beq_eq_false_iff_ne.2 (by omega)
  have b3 : (op == 3) = false := beq_eq_false_iff_ne.2 (by omega)
  have b4 : (op == 4) = false := beq_eq_false_iff_ne.2 (by omega)
  have b5 : (op == 5) = false := beq_eq_false_iff_ne.2 (by omega)
  have b6 : (op == 6) = false := beq_eq_false_iff_ne.2 (by omega)
  have b7 : (op == 7) = false := beq_eq_false_iff_ne.2 (by omega)
  have b8 : (op == 8) = false := beq_eq_false_iff_ne.2 (by omega)
  have b9 : (op == 9) = false := beq_eq_false_iff_ne.2 (by omega)
  have b10 : (op == 10) = false := beq_eq_false_iff_ne.2 (by omega)
  clear hop
  go_enter Tryd.func55, Tryd.ntmps55
  go_wp2
  go_ret
  exact ⟨rfl, (by (repeat' (first | (with_reducible exact Below.refl _ _) | (with_reducible assumption) | (with_reducible refine below_ext0 ?_ _ _) | (with_reducible refine below_alloc0 ?_ _) | (with_reducible refine Below.ext ?_ ?_ _ _) | (with_reducible refine Below.alloc ?_ ?_ _) | (with_reducible refine Below.setCell ?_ ?_ _) | (with_reducible refine Below.drew ?_) | (with_reducible refine below_draws ?_ _) | go_size | (simp [size_ext]; done) | (simp [size_ext]; omega))))⟩
set_option maxHeartbeats 16000000 in
theorem node1_bare (w : World) (op N : Int) (hop : op = 1 ∨ op = 6 ∨ op = 8 ∨ op = 9 ∨ op = 10) :
    Calls Tryd.prog 55 #[.agg #[.int .i64 op, .int .i64 N, .slice A n c, .slice A' n' c']] w fun e w' => e = .returned (errV (if N ≠ 0 ∨ 0 < n ∨ 0 < n' then 1 else 0)) ∧ Below w.heap.size w w' := by
  have CW : ∀ op, (op = 1 ∨ op = 6 ∨ op = 8 ∨ op = 9 ∨ op = 10) → ∀ w', Calls Tryd.prog 68 #[.agg #[.int .i64 op, .int .i64 0, .slice A n c, .slice A' n' c']] w' fun e w'' => e = .returned (errV 0) ∧ Below w'.heap.size w' w'' := fun op hop w' => within_num w' op 0 0 (.inr (.inr ⟨hop, rfl⟩))
  by_cases hN : N = 0
  · subst hN
    by_cases hn : n = 0
    · by_cases hn' : n' = 0
      · subst hn hn'
        rw [if_neg (by omega)]
        have D := hid (CW op hop)
        clear CW
        have tk0 : True := trivial; have tk1 : True := trivial; have tk2 : True := trivial; have tk3 : True := trivial; have tk4 : True := trivial; have tk5 : True := trivial; have tk6 : True := trivial; have tk7 : True := trivial; have tk8 : True := trivial; have tk9 : True := trivial; have tk10 : True := trivial; have tk11 : True := trivial; have tk12 : True := trivial
        rcases hop with rfl | rfl | rfl | rfl | rfl
        all_goals
          go_enter Tryd.func55, Tryd.ntmps55
          go_wp2_with (go_at_call 68; have _t := tk1; (with_reducible refine (D.out _).mono ?_); rintro e w1 ⟨rfl, hb⟩; obtain ⟨otk1, dtk1, rfl⟩ := ext_of_below hb; clear hb tk1)
          go_ret
          exact ⟨rfl, (by (repeat' (first | (with_reducible exact Below.refl _ _) | (with_reducible assumption) | (with_reducible refine below_ext0 ?_ _ _) | (with_reducible refine below_alloc0 ?_ _) | (with_reducible refine Below.ext ?_ ?_ _ _) | (with_reducible refine Below.alloc ?_ ?_ _) | (with_reducible refine Below.setCell ?_ ?_ _) | (with_reducible refine Below.drew ?_) | (with_reducible refine below_draws ?_ _) | go_size | (simp [size_ext]; done) | (simp [size_ext]; omega))))⟩
      · subst hn
        rw [if_pos (by omega)]
        have z1 : ((0 : Int) == (n' : Int)) = false := beq_eq_false_iff_ne.2 (by omega)
        have z2 : ¬ (0 : Int) = (n' : Int) := by omega
        have z3 : (0 == n') = false := beq_eq_false_iff_ne.2 (by omega)
        clear CW
        rcases hop with rfl | rfl | rfl | rfl | rfl
        all_goals
          go_enter Tryd.func55, Tryd.ntmps55
          go_wp2
          go_ret
          exact ⟨rfl, (by (repeat' (first | (with_reducible exact Below.refl _ _) | (with_reducible assumption) | (with_reducible refine below_ext0 ?_ _ _) | (with_reducible refine below_alloc0 ?_ _) | (with_reducible refine Below.ext ?_ ?_ _ _) | (with_reducible refine Below.alloc ?_ ?_ _) | (with_reducible refine Below.setCell ?_ ?_ _) | (with_reducible refine Below.drew ?_) | (with_reducible refine below_draws ?_ _) | go_size | (simp [size_ext]; done) | (simp [size_ext]; omega))))⟩
    · rw [if_pos (by omega)]
      have z1 : ((0 : Int) == (n : Int)) = false := beq_eq_false_iff_ne.2 (by omega)
      have z2 : ¬ (0 : Int) = (n : Int) := by omega
      have z3 : (0 == n) = false := beq_eq_false_iff_ne.2 (by omega)
      clear CW
      rcases hop with rfl | rfl | rfl | rfl | rfl
      all_goals
        go_enter Tryd.func55, Tryd.ntmps55
        go_wp2
        go_ret
        exact ⟨rfl, (by (repeat' (first | (with_reducible exact Below.refl _ _) | (with_reducible assumption) | (with_reducible refine below_ext0 ?_ _ _) | (with_reducible refine below_alloc0 ?_ _) | (with_reducible refine Below.ext ?_ ?_ _ _) | (with_reducible refine Below.alloc ?_ ?_ _) | (with_reducible refine Below.setCell ?_ ?_ _) | (with_reducible refine Below.drew ?_) | (with_reducible refine below_draws ?_ _) | go_size | (simp [size_ext]; done) | (simp [size_ext]; omega))))⟩
  · rw [if_pos (.inl hN)]
    have z1 : ((0 : Int) == N) = false := beq_eq_false_iff_ne.2 (by omega)
    have z2 : ¬ (0 : Int) = N := by omega
    clear CW
    rcases hop with rfl | rfl | rfl | rfl | rfl
    all_goals
      go_enter Tryd.func55, Tryd.ntmps55
      go_wp2
      go_ret
      exact ⟨rfl, (by (repeat' (first | (with_reducible exact Below.refl _ _) | (with_reducible assumption) | (with_reducible refine below_ext0 ?_ _ _) | (with_reducible refine below_alloc0 ?_ _) | (with_reducible refine Below.ext ?_ ?_ _ _) | (with_reducible refine Below.alloc ?_ ?_ _) | (with_reducible refine Below.setCell ?_ ?_ _) | (with_reducible refine Below.drew ?_) | (with_reducible refine below_draws ?_ _) | go_size | (simp [size_ext]; done) | (simp [size_ext]; omega))))⟩
set_option maxHeartbeats 8000000 in
theorem node1_two (w : World) (N : Int) (h1 : Rd strR w w.heap.size A n c l) :
    Calls Tryd.prog 55 #[.agg #[.int .i64 2, .int .i64 N, .slice A n c, .slice A' n' c']] w fun e w' => e = .returned (errV (if N ≠ 0 ∨ 0 < n' then 1 else nameErr l)) ∧ Below w.heap.size w w' := by
  have CW := fun w' (hb : Below w.heap.size w w') => within_two (A' := A') (n' := n') (c' := c') w' N (h1.later hb)
  by_cases hN : N = 0
  · subst hN
    by_cases hn' : n' = 0
    · subst hn'
      rw [if_neg (by omega)]
      have D := hid CW
      clear CW h1
      have tk0 : True := trivial; have tk1 : True := trivial; have tk2 : True := trivial; have tk3 : True := trivial; have tk4 : True := trivial; have tk5 : True := trivial; have tk6 : True := trivial; have tk7 : True := trivial; have tk8 : True := trivial; have tk9 : True := trivial; have tk10 : True := trivial; have tk11 : True := trivial; have tk12 : True := trivial
      go_enter Tryd.func55, Tryd.ntmps55
      go_wp2_with (go_at_call 68; have _t := tk1; (with_reducible refine (D.out _ (by (repeat' (first | (with_reducible exact Below.refl _ _) | (with_reducible assumption) | (with_reducible refine below_ext0 ?_ _ _) | (with_reducible refine below_alloc0 ?_ _) | (with_reducible refine Below.ext ?_ ?_ _ _) | (with_reducible refine Below.alloc ?_ ?_ _) | (with_reducible refine Below.setCell ?_ ?_ _) | (with_reducible refine Below.drew ?_) | (with_reducible refine below_draws ?_ _) | go_size | (simp [size_ext]; done) | (simp [size_ext]; omega))))).mono ?_); rintro e w1 ⟨rfl, hb⟩; obtain ⟨otk1, dtk1, rfl⟩ := ext_of_below hb; clear hb tk1)
      go_ret
      exact ⟨rfl, (by (repeat' (first | (with_reducible exact Below.refl _ _) | (with_reducible assumption) | (with_reducible refine below_ext0 ?_ _ _) | (with_reducible refine below_alloc0 ?_ _) | (with_reducible refine Below.ext ?_ ?_ _ _) | (with_reducible refine Below.alloc ?_ ?_ _) | (with_reducible refine Below.setCell ?_ ?_ _) | (with_reducible refine Below.drew ?_) | (with_reducible refine below_draws ?_ _) | go_size | (simp [size_ext]; done) | (simp [size_ext]; omega))))⟩
    · rw [if_pos (by omega)]
      have z1 : ((0 : Int) == (n' : Int)) = false := beq_eq_false_iff_ne.2 (by omega)
      have z2 : ¬ (0 : Int) = (n' : Int) := by omega
      have z3 : (0 == n') = false := beq_eq_false_iff_ne.2 (by omega)
      clear CW h1
      go_enter Tryd.func55, Tryd.ntmps55
      go_wp2
      go_ret
      exact ⟨rfl, (by (repeat' (first | (with_reducible exact Below.refl _ _) | (with_reducible assumption) | (with_reducible refine below_ext0 ?_ _ _) | (with_reducible refine below_alloc0 ?_ _) | (with_reducible refine Below.ext ?_ ?_ _ _) | (with_reducible refine Below.alloc ?_ ?_ _) | (with_reducible refine Below.setCell ?_ ?_ _) | (with_reducible refine Below.drew ?_) | (with_reducible refine below_draws ?_ _) | go_size | (simp [size_ext]; done) | (simp [size_ext]; omega))))⟩
  · rw [if_pos (.inl hN)]
    have z1 : ((0 : Int) == N) = false := beq_eq_false_iff_ne.2 (by omega)
    have z2 : ¬ (0 : Int) = N := by omega
    clear CW h1
    go_enter Tryd.func55, Tryd.ntmps55
    go_wp2
    go_ret
    exact ⟨rfl, (by (repeat' (first | (with_reducible exact Below.refl _ _) | (with_reducible assumption) | (with_reducible refine below_ext0 ?_ _ _) | (with_reducible refine below_alloc0 ?_ _) | (with_reducible refine Below.ext ?_ ?_ _ _) | (with_reducible refine Below.alloc ?_ ?_ _) | (with_reducible refine Below.setCell ?_ ?_ _) | (with_reducible refine Below.drew ?_) | (with_reducible refine below_draws ?_ _) | go_size | (simp [size_ext]; done) | (simp [size_ext]; omega))))⟩
set_option maxHeartbeats 16000000 in
theorem node1_num (w : World) (op N most : Int) (hop : (op = 3 ∨ op = 4) ∧ most = 65535 ∨ op = 5 ∧ most = 15) :
    Calls Tryd.prog 55 #[.agg #[.int .i64 op, .int .i64 N, .slice A n c, .slice A' n' c']] w fun e w' => e = .returned (errV (if 0 < n ∨ 0 < n' then 1 else rangeE N most)) ∧ Below w.heap.size w w' := by
  have CW := fun w' => within_num (A := A) (n := n) (c := c) (A' := A') (n' := n') (c' := c') w' op N most (by rcases hop with h | h; exact .inl h; exact .inr (.inl h))
  by_cases hn : n = 0
  · subst hn
    by_cases hn' : n' = 0
    · subst hn'
      rw [if_neg (by omega)]
      have D := hid CW
      clear CW
      have tk0 : True := trivial; have tk1 : True := trivial; have tk2 : True := trivial; have tk3 : True := trivial; have tk4 : True := trivial; have tk5 : True := trivial; have tk6 : True := trivial; have tk7 : True := trivial; have tk8 : True := trivial; have tk9 : True := trivial; have tk10 : True := trivial; have tk11 : True := trivial; have tk12 : True := trivial
      rcases hop with ⟨rfl | rfl, rfl⟩ | ⟨rfl, rfl⟩
      all_goals
        go_enter Tryd.func55, Tryd.ntmps55
        go_wp2_with (go_at_call 68; have _t := tk1; (with_reducible refine (D.out _).mono ?_); rintro e w1 ⟨rfl, hb⟩; obtain ⟨otk1, dtk1, rfl⟩ := ext_of_below hb; clear hb tk1)
        go_ret
        exact ⟨rfl, (by (repeat' (first | (with_reducible exact Below.refl _ _) | (with_reducible assumption) | (with_reducible refine below_ext0 ?_ _ _) | (with_reducible refine below_alloc0 ?_ _) | (with_reducible refine Below.ext ?_ ?_ _ _) | (with_reducible refine Below.alloc ?_ ?_ _) | (with_reducible refine Below.setCell ?_ ?_ _) | (with_reducible refine Below.drew ?_) | (with_reducible refine below_draws ?_ _) | go_size | (simp [size_ext]; done) | (simp [size_ext]; omega))))⟩
    · rw [if_pos (by omega)]
      have z1 : ((0 : Int) == (n' : Int)) = false := beq_eq_false_iff_ne.2 (by omega)
      have z2 : ¬ (0 : Int) = (n' : Int) := by omega
      have z3 : (0 == n') = false := beq_eq_false_iff_ne.2 (by omega)
      clear CW
      rcases hop with ⟨rfl | rfl, rfl⟩ | ⟨rfl, rfl⟩
      all_goals
        go_enter Tryd.func55, Tryd.ntmps55
        go_wp2
        go_ret
        exact ⟨rfl, (by (repeat' (first | (with_reducible exact Below.refl _ _) | (with_reducible assumption) | (with_reducible refine below_ext0 ?_ _ _) | (with_reducible refine below_alloc0 ?_ _) | (with_reducible refine Below.ext ?_ ?_ _ _) | (with_reducible refine Below.alloc ?_ ?_ _) | (with_reducible refine Below.setCell ?_ ?_ _) | (with_reducible refine Below.drew ?_) | (with_reducible refine below_draws ?_ _) | go_size | (simp [size_ext]; done) | (simp [size_ext]; omega))))⟩
  · rw [if_pos (by omega)]
    have z1 : ((0 : Int) == (n : Int)) = false := beq_eq_false_iff_ne.2 (by omega)
    have z2 : ¬ (0 : Int) = (n : Int) := by omega
    have z3 : (0 == n) = false := beq_eq_false_iff_ne.2 (by omega)
    clear CW
    rcases hop with ⟨rfl | rfl, rfl⟩ | ⟨rfl, rfl⟩
    all_goals
      go_enter Tryd.func55, Tryd.ntmps55
      go_wp2
      go_ret
      exact ⟨rfl, (by (repeat' (first | (with_reducible exact Below.refl _ _) | (with_reducible assumption) | (with_reducible refine below_ext0 ?_ _ _) | (with_reducible refine below_alloc0 ?_ _) | (with_reducible refine Below.ext ?_ ?_ _ _) | (with_reducible refine Below.alloc ?_ ?_ _) | (with_reducible refine Below.setCell ?_ ?_ _) | (with_reducible refine Below.drew ?_) | (with_reducible refine below_draws ?_ _) | go_size | (simp [size_ext]; done) | (simp [size_ext]; omega))))⟩
set_option maxHeartbeats 8000000 in
theorem node1_seven (w : World) (N : Int) (hm : n' ≤ maxLen) :
    Calls Tryd.prog 55 #[.agg #[.int .i64 7, .int .i64 N, .slice A n c, .slice A' n' c']] w fun e w' => e = .returned (errV (if 0 < n then 1 else if 16 < n' then 6 else rangeE N (8 * (n' : Int)))) ∧ Below w.heap.size w w' := by
  have CW := fun w' => within_seven (A := A) (n := n) (c := c) (A' := A') (n' := n') (c' := c') w' N hm
  by_cases hn : n = 0
  · subst hn
    rw [if_neg (by omega)]
    obtain ⟨X, hX⟩ : ∃ X, (if 16 < n' then (6 : Int) else rangeE N (8 * (n' : Int))) = X := ⟨_, rfl⟩
    rw [hX]
    have D := hid CW
    rw [hX] at D
    clear CW hm hX
    have tk0 : True := trivial; have tk1 : True := trivial; have tk2 : True := trivial; have tk3 : True := trivial; have tk4 : True := trivial; have tk5 : True := trivial; have tk6 : True := trivial; have tk7 : True := trivial; have tk8 : True := trivial; have tk9 : True := trivial; have tk10 : True := trivial; have tk11 : True := trivial; have tk12 : True := trivial
    go_enter Tryd.func55, Tryd.ntmps55
    go_wp2_with fail
    go_region
    go_wp2_with (go_at_call 68; have _t := tk1; (with_reducible refine (D.out _).mono ?_); rintro e w1 ⟨rfl, hb⟩; obtain ⟨otk1, dtk1, rfl⟩ := ext_of_below hb; clear hb tk1)
    go_ret
    exact ⟨rfl, (by (repeat' (first | (with_reducible exact Below.refl _ _) | (with_reducible assumption) | (with_reducible refine below_ext0 ?_ _ _) | (with_reducible refine below_alloc0 ?_ _) | (with_reducible refine Below.ext ?_ ?_ _ _) | (with_reducible refine Below.alloc ?_ ?_ _) | (with_reducible refine Below.setCell ?_ ?_ _) | (with_reducible refine Below.drew ?_) | (with_reducible refine below_draws ?_ _) | go_size | (simp [size_ext]; done) | (simp [size_ext]; omega))))⟩
  · rw [if_pos (by omega)]
    have z1 : ((0 : Int) == (n : Int)) = false := beq_eq_false_iff_ne.2 (by omega)
    have z2 : ¬ (0 : Int) = (n : Int) := by omega
    have z3 : (0 == n) = false := beq_eq_false_iff_ne.2 (by omega)
    clear CW hm
    go_enter Tryd.func55, Tryd.ntmps55
    go_wp2_with fail
    go_region
    go_wp2
    go_ret
    exact ⟨rfl, (by (repeat' (first | (with_reducible exact Below.refl _ _) | (with_reducible assumption) | (with_reducible refine below_ext0 ?_ _ _) | (with_reducible refine below_alloc0 ?_ _) | (with_reducible refine Below.ext ?_ ?_ _ _) | (with_reducible refine Below.alloc ?_ ?_ _) | (with_reducible refine Below.setCell ?_ ?_ _) | (with_reducible refine Below.drew ?_) | (with_reducible refine below_draws ?_ _) | go_size | (simp [size_ext]; done) | (simp [size_ext]; omega))))⟩
end
theorem node1_any (w : World) {A A' : Option Addr} {n c n' c' : Nat} {l : List ByteArray} {ad : List UInt8} (op N : Int) (h1 : Rd strR w w.heap.size A n c l) (h2 : Rd u8R w w.heap.size A' n' c' ad) :
    Calls Tryd.prog 55 #[.agg #[.int .i64 op, .int .i64 N, .slice A n c, .slice A' n' c']] w fun e w' => e = .returned (errV (matchErr (op, N, l, ad, ()))) ∧ Below w.heap.size w w' := by
  have l1 := h1.len
  have l2 := h2.len
  have m2 : n' ≤ maxLen := Nat.le_trans h2.cap h2.max
  unfold matchErr
  dsimp only
  by_cases h0 : op < 1 ∨ 10 < op
  · rw [if_pos h0]
    exact node1_none w op N h0
  · rw [if_neg h0, l1, l2]
    have ways : (op = 1 ∨ op = 6 ∨ op = 8 ∨ op = 9 ∨ op = 10) ∨ op = 2 ∨ (op = 3 ∨ op = 4) ∨ op = 5 ∨ op = 7 := by omega
    rcases ways with h | h | h | h | h
    · have hn : numOp op = false := by rcases h with rfl | rfl | rfl | rfl | rfl <;> rfl
      have key := node1_bare (A := A) (n := n) (c := c) (A' := A') (n' := n') (c' := c') w op N h
      by_cases hx : N ≠ 0 ∨ 0 < n ∨ 0 < n'
      · rw [if_pos hx] at key
        rw [if_pos (by rcases hx with hx | hx | hx; exact .inl ⟨hn, hx⟩; exact .inr (.inl ⟨by omega, hx⟩); exact .inr (.inr ⟨by omega, hx⟩))]
        exact key
      · rw [if_neg hx] at key
        rw [if_neg (by rintro (⟨_, h⟩ | ⟨_, h⟩ | ⟨_, h⟩) <;> omega), if_neg (by omega), if_neg (by omega)]
        have hm : mostM (op, N, l, ad, ()) = 65535 := by unfold mostM; rw [if_neg (by simp only; omega), if_neg (by simp only; omega)]
        rw [hm, if_neg (by omega)]
        exact key
    · subst h
      have key := node1_two (A := A) (n := n) (c := c) (A' := A') (n' := n') (c' := c') w N h1
      by_cases hx : N ≠ 0 ∨ 0 < n'
      · rw [if_pos hx] at key
        rw [if_pos (by rcases hx with hx | hx; exact .inl ⟨rfl, hx⟩; exact .inr (.inr ⟨by omega, hx⟩))]
        exact key
      · rw [if_neg hx] at key
        rw [if_neg (by rintro (⟨_, h⟩ | ⟨_, h⟩ | ⟨_, h⟩) <;> omega), if_pos rfl]
        exact key
    · have hn : numOp op = true := by rcases h with rfl | rfl <;> rfl
      have key := node1_num (A := A) (n := n) (c := c) (A' := A') (n' := n') (c' := c') w op N 65535 (.inl ⟨h, rfl⟩)
      by_cases hx : 0 < n ∨ 0 < n'
      · rw [if_pos hx] at key
        rw [if_pos (by rcases hx with hx | hx; exact .inr (.inl ⟨by omega, hx⟩); exact .inr (.inr ⟨by omega, hx⟩))]
        exact key
      · rw [if_neg hx] at key
        rw [if_neg (by rw [hn]; rintro (⟨h, _⟩ | ⟨_, h⟩ | ⟨_, h⟩); cases h; omega; omega), if_neg (by omega), if_neg (by omega)]
        have hm : mostM (op, N, l, ad, ()) = 65535 := by unfold mostM; rw [if_neg (by simp only; omega), if_neg (by simp only; omega)]
        rw [hm]
        exact key
    · subst h
      have key := node1_num (A := A) (n := n) (c := c) (A' := A') (n' := n') (c' := c') w 5 N 15 (.inr ⟨rfl, rfl⟩)
      by_cases hx : 0 < n ∨ 0 < n'
      · rw [if_pos hx] at key
        rw [if_pos (by rcases hx with hx | hx; exact .inr (.inl ⟨by omega, hx⟩); exact .inr (.inr ⟨by omega, hx⟩))]
        exact key
      · rw [if_neg hx] at key
        rw [if_neg (by rintro (⟨h, _⟩ | ⟨_, h⟩ | ⟨_, h⟩); cases h; omega; omega), if_neg (by omega), if_neg (by omega)]
        exact key
    · subst h
      have key := node1_seven (A := A) (n := n) (c := c) (A' := A') (n' := n') (c' := c') w N m2
      by_cases hx : 0 < n
      · rw [if_pos hx] at key
        rw [if_pos (.inr (.inl ⟨by omega, hx⟩))]
        exact key
      · rw [if_neg hx] at key
        rw [if_neg (by rintro (⟨h, _⟩ | ⟨_, h⟩ | ⟨h, _⟩); cases h; omega; omega), if_neg (by omega)]
        by_cases h16 : 16 < n'
        · rw [if_pos h16] at key
          rw [if_pos ⟨rfl, h16⟩]
          exact key
        · rw [if_neg h16] at key
          rw [if_neg (by omega)]
          have hm : mostM (7, N, l, ad, ()) = 8 * (n' : Int) := by unfold mostM; rw [if_neg (by simp), if_pos rfl]; simp only; rw [l2]
          rw [hm]
          exact key
end Go.Proofs.YtemgbfppdopfbaaDoor
