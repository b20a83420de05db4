/- The document's answers of rules: MatchFault, RuleFault. -/
import Derived.Test.YtemgbfppdopfbaaDoorRuleL
import Derived.Test.YtemgbfppdopfbaaDoorNameRefB
namespace Go.Proofs.YtemgbfppdopfbaaDoor
open Go.RowKit
open Tree
set_option linter.unusedVariables false
set_option linter.unusedSimpArgs false

theorem takes_le (op : Int) : takesN op ≤ 2 := by
  unfold takesN
  split
  · omega
  · split <;> omega
section
variable {A A' : Option Addr} {n c n' c' : Nat} {l : List ByteArray} {ad : List UInt8}
set_option maxHeartbeats 8000000 in
theorem mf_none (w : World) (op N : Int) (hop : op < 1 ∨ 10 < op) :
    Calls Tryd.prog 39 #[.agg #[.int .i64 op, .int .i64 N, .slice A n c, .slice A' n' c']] w fun e w' => e = .returned (.int .i64 1) ∧ Below w.heap.size w w' := by
  rcases hop with h | h
  · go_enter Tryd.func39, Tryd.ntmps39
    go_wp2
    go_ret
    exact ⟨rfl, (by (repeat' (first | (with_reducible exact Below.refl _ _) | (with_reducible assumption) | (with_reducible refine below_ext0 ?_ _ _) | (with_reducible refine below_alloc0 ?_ _) | (with_reducible refine Below.ext ?_ ?_ _ _) | (with_reducible refine Below.alloc ?_ ?_ _) | (with_reducible refine Below.setCell ?_ ?_ _) | (with_reducible refine Below.drew ?_) | (with_reducible refine below_draws ?_ _) | go_size | (simp [size_ext]; done) | (simp [size_ext]; omega))))⟩
  · have h1 : ¬ op < 1 := by omega
    go_enter Tryd.func39, Tryd.ntmps39
    go_wp2
    go_ret
    exact ⟨rfl, (by (repeat' (first | (with_reducible exact Below.refl _ _) | (with_reducible assumption) | (with_reducible refine below_ext0 ?_ _ _) | (with_reducible refine below_alloc0 ?_ _) | (with_reducible refine Below.ext ?_ ?_ _ _) | (with_reducible refine Below.alloc ?_ ?_ _) | (with_reducible refine Below.setCell ?_ ?_ _) | (with_reducible refine Below.drew ?_) | (with_reducible refine below_draws ?_ _) | go_size | (simp [size_ext]; done) | (simp [size_ext]; omega))))⟩
set_option maxHeartbeats 16000000 in
theorem mf_bare (w : World) (op N : Int) (hop : op = 1 ∨ op = 6 ∨ op = 8 ∨ op = 9 ∨ op = 10) :
    Calls Tryd.prog 39 #[.agg #[.int .i64 op, .int .i64 N, .slice A n c, .slice A' n' c']] w fun e w' => e = .returned (.int .i64 (if N ≠ 0 ∨ 0 < n ∨ 0 < n' then 1 else 0)) ∧ Below w.heap.size w w' := by
  by_cases hN : N = 0
  · subst hN
    by_cases hn : n = 0
    · by_cases hn' : n' = 0
      · subst hn hn'
        rw [if_neg (by omega)]
        rcases hop with rfl | rfl | rfl | rfl | rfl
        all_goals
          go_enter Tryd.func39, Tryd.ntmps39
          go_wp2
          go_ret
          exact ⟨rfl, (by (repeat' (first | (with_reducible exact Below.refl _ _) | (with_reducible assumption) | (with_reducible refine below_ext0 ?_ _ _) | (with_reducible refine below_alloc0 ?_ _) | (with_reducible refine Below.ext ?_ ?_ _ _) | (with_reducible refine Below.alloc ?_ ?_ _) | (with_reducible refine Below.setCell ?_ ?_ _) | (with_reducible refine Below.drew ?_) | (with_reducible refine below_draws ?_ _) | go_size | (simp [size_ext]; done) | (simp [size_ext]; omega))))⟩
      · subst hn
        rw [if_pos (by omega)]
        have z1 : (0 : Int) < (n' : Int) := by omega
        rcases hop with rfl | rfl | rfl | rfl | rfl
        all_goals
          go_enter Tryd.func39, Tryd.ntmps39
          go_wp2
          go_ret
          exact ⟨rfl, (by (repeat' (first | (with_reducible exact Below.refl _ _) | (with_reducible assumption) | (with_reducible refine below_ext0 ?_ _ _) | (with_reducible refine below_alloc0 ?_ _) | (with_reducible refine Below.ext ?_ ?_ _ _) | (with_reducible refine Below.alloc ?_ ?_ _) | (with_reducible refine Below.setCell ?_ ?_ _) | (with_reducible refine Below.drew ?_) | (with_reducible refine below_draws ?_ _) | go_size | (simp [size_ext]; done) | (simp [size_ext]; omega))))⟩
    · rw [if_pos (by omega)]
      have z1 : (0 : Int) < (n : Int) := by omega
      rcases hop with rfl | rfl | rfl | rfl | rfl
      all_goals
        go_enter Tryd.func39, Tryd.ntmps39
        go_wp2
        go_ret
        exact ⟨rfl, (by (repeat' (first | (with_reducible exact Below.refl _ _) | (with_reducible assumption) | (with_reducible refine below_ext0 ?_ _ _) | (with_reducible refine below_alloc0 ?_ _) | (with_reducible refine Below.ext ?_ ?_ _ _) | (with_reducible refine Below.alloc ?_ ?_ _) | (with_reducible refine Below.setCell ?_ ?_ _) | (with_reducible refine Below.drew ?_) | (with_reducible refine below_draws ?_ _) | go_size | (simp [size_ext]; done) | (simp [size_ext]; omega))))⟩
  · rw [if_pos (.inl hN)]
    have z1 : (N != 0) = true := bne_iff_ne.2 hN
    rcases hop with rfl | rfl | rfl | rfl | rfl
    all_goals
      go_enter Tryd.func39, Tryd.ntmps39
      go_wp2
      go_ret
      exact ⟨rfl, (by (repeat' (first | (with_reducible exact Below.refl _ _) | (with_reducible assumption) | (with_reducible refine below_ext0 ?_ _ _) | (with_reducible refine below_alloc0 ?_ _) | (with_reducible refine Below.ext ?_ ?_ _ _) | (with_reducible refine Below.alloc ?_ ?_ _) | (with_reducible refine Below.setCell ?_ ?_ _) | (with_reducible refine Below.drew ?_) | (with_reducible refine below_draws ?_ _) | go_size | (simp [size_ext]; done) | (simp [size_ext]; omega))))⟩
set_option maxHeartbeats 8000000 in
theorem mf_two (w : World) (N : Int) (h1 : Rd strR w w.heap.size A n c l) :
    Calls Tryd.prog 39 #[.agg #[.int .i64 2, .int .i64 N, .slice A n c, .slice A' n' c']] w fun e w' => e = .returned (.int .i64 (if N ≠ 0 ∨ 0 < n' then 1 else nameErr l)) ∧ Below w.heap.size w w' := by
  have CW := fun w' (hb : Below w.heap.size w w') => nfault_any w' A n c l _ (h1.later hb)
  by_cases hN : N = 0
  · subst hN
    by_cases hn' : n' = 0
    · subst hn'
      rw [if_neg (by omega)]
      have D := hid CW
      clear CW h1
      have tk0 : True := trivial; have tk1 : True := trivial; have tk2 : True := trivial; have tk3 : True := trivial; have tk4 : True := trivial; have tk5 : True := trivial; have tk6 : True := trivial; have tk7 : True := trivial; have tk8 : True := trivial; have tk9 : True := trivial; have tk10 : True := trivial; have tk11 : True := trivial; have tk12 : True := trivial
      go_enter Tryd.func39, Tryd.ntmps39
      go_wp2_with (go_at_call 14; have _t := tk1; (with_reducible refine (D.out _ (by (repeat' (first | (with_reducible exact Below.refl _ _) | (with_reducible assumption) | (with_reducible refine below_ext0 ?_ _ _) | (with_reducible refine below_alloc0 ?_ _) | (with_reducible refine Below.ext ?_ ?_ _ _) | (with_reducible refine Below.alloc ?_ ?_ _) | (with_reducible refine Below.setCell ?_ ?_ _) | (with_reducible refine Below.drew ?_) | (with_reducible refine below_draws ?_ _) | go_size | (simp [size_ext]; done) | (simp [size_ext]; omega))))).mono ?_); rintro e w1 ⟨rfl, hw⟩; subst w1; clear tk1)
      go_ret
      exact ⟨rfl, (by (repeat' (first | (with_reducible exact Below.refl _ _) | (with_reducible assumption) | (with_reducible refine below_ext0 ?_ _ _) | (with_reducible refine below_alloc0 ?_ _) | (with_reducible refine Below.ext ?_ ?_ _ _) | (with_reducible refine Below.alloc ?_ ?_ _) | (with_reducible refine Below.setCell ?_ ?_ _) | (with_reducible refine Below.drew ?_) | (with_reducible refine below_draws ?_ _) | go_size | (simp [size_ext]; done) | (simp [size_ext]; omega))))⟩
    · rw [if_pos (by omega)]
      have z1 : (0 : Int) < (n' : Int) := by omega
      clear CW h1
      go_enter Tryd.func39, Tryd.ntmps39
      go_wp2
      go_ret
      exact ⟨rfl, (by (repeat' (first | (with_reducible exact Below.refl _ _) | (with_reducible assumption) | (with_reducible refine below_ext0 ?_ _ _) | (with_reducible refine below_alloc0 ?_ _) | (with_reducible refine Below.ext ?_ ?_ _ _) | (with_reducible refine Below.alloc ?_ ?_ _) | (with_reducible refine Below.setCell ?_ ?_ _) | (with_reducible refine Below.drew ?_) | (with_reducible refine below_draws ?_ _) | go_size | (simp [size_ext]; done) | (simp [size_ext]; omega))))⟩
  · rw [if_pos (.inl hN)]
    have z1 : (N != 0) = true := bne_iff_ne.2 hN
    clear CW h1
    go_enter Tryd.func39, Tryd.ntmps39
    go_wp2
    go_ret
    exact ⟨rfl, (by (repeat' (first | (with_reducible exact Below.refl _ _) | (with_reducible assumption) | (with_reducible refine below_ext0 ?_ _ _) | (with_reducible refine below_alloc0 ?_ _) | (with_reducible refine Below.ext ?_ ?_ _ _) | (with_reducible refine Below.alloc ?_ ?_ _) | (with_reducible refine Below.setCell ?_ ?_ _) | (with_reducible refine Below.drew ?_) | (with_reducible refine below_draws ?_ _) | go_size | (simp [size_ext]; done) | (simp [size_ext]; omega))))⟩
set_option maxHeartbeats 16000000 in
theorem mf_num (w : World) (op N most : Int) (hop : (op = 3 ∨ op = 4) ∧ most = 65535 ∨ op = 5 ∧ most = 15) :
    Calls Tryd.prog 39 #[.agg #[.int .i64 op, .int .i64 N, .slice A n c, .slice A' n' c']] w fun e w' => e = .returned (.int .i64 (if 0 < n ∨ 0 < n' then 1 else rangeE N most)) ∧ Below w.heap.size w w' := by
  by_cases hn : n = 0
  · subst hn
    by_cases hn' : n' = 0
    · subst hn'
      rw [if_neg (by omega)]
      by_cases h0 : N < 0
      · rw [show rangeE N most = 6 from if_pos (.inl h0)]
        rcases hop with ⟨rfl | rfl, rfl⟩ | ⟨rfl, rfl⟩
        all_goals
          go_enter Tryd.func39, Tryd.ntmps39
          go_wp2
          go_ret
          exact ⟨rfl, (by (repeat' (first | (with_reducible exact Below.refl _ _) | (with_reducible assumption) | (with_reducible refine below_ext0 ?_ _ _) | (with_reducible refine below_alloc0 ?_ _) | (with_reducible refine Below.ext ?_ ?_ _ _) | (with_reducible refine Below.alloc ?_ ?_ _) | (with_reducible refine Below.setCell ?_ ?_ _) | (with_reducible refine Below.drew ?_) | (with_reducible refine below_draws ?_ _) | go_size | (simp [size_ext]; done) | (simp [size_ext]; omega))))⟩
      · by_cases h1 : most < N
        · rw [show rangeE N most = 6 from if_pos (.inr h1)]
          rcases hop with ⟨rfl | rfl, rfl⟩ | ⟨rfl, rfl⟩
          all_goals
            go_enter Tryd.func39, Tryd.ntmps39
            go_wp2
            go_ret
            exact ⟨rfl, (by (repeat' (first | (with_reducible exact Below.refl _ _) | (with_reducible assumption) | (with_reducible refine below_ext0 ?_ _ _) | (with_reducible refine below_alloc0 ?_ _) | (with_reducible refine Below.ext ?_ ?_ _ _) | (with_reducible refine Below.alloc ?_ ?_ _) | (with_reducible refine Below.setCell ?_ ?_ _) | (with_reducible refine Below.drew ?_) | (with_reducible refine below_draws ?_ _) | go_size | (simp [size_ext]; done) | (simp [size_ext]; omega))))⟩
        · rw [show rangeE N most = 0 from if_neg (by omega)]
          rcases hop with ⟨rfl | rfl, rfl⟩ | ⟨rfl, rfl⟩
          all_goals
            go_enter Tryd.func39, Tryd.ntmps39
            go_wp2
            go_ret
            exact ⟨rfl, (by (repeat' (first | (with_reducible exact Below.refl _ _) | (with_reducible assumption) | (with_reducible refine below_ext0 ?_ _ _) | (with_reducible refine below_alloc0 ?_ _) | (with_reducible refine Below.ext ?_ ?_ _ _) | (with_reducible refine Below.alloc ?_ ?_ _) | (with_reducible refine Below.setCell ?_ ?_ _) | (with_reducible refine Below.drew ?_) | (with_reducible refine below_draws ?_ _) | go_size | (simp [size_ext]; done) | (simp [size_ext]; omega))))⟩
    · rw [if_pos (by omega)]
      have z1 : (0 : Int) < (n' : Int) := by omega
      rcases hop with ⟨rfl | rfl, rfl⟩ | ⟨rfl, rfl⟩
      all_goals
        go_enter Tryd.func39, Tryd.ntmps39
        go_wp2
        go_ret
        exact ⟨rfl, (by (repeat' (first | (with_reducible exact Below.refl _ _) | (with_reducible assumption) | (with_reducible refine below_ext0 ?_ _ _) | (with_reducible refine below_alloc0 ?_ _) | (with_reducible refine Below.ext ?_ ?_ _ _) | (with_reducible refine Below.alloc ?_ ?_ _) | (with_reducible refine Below.setCell ?_ ?_ _) | (with_reducible refine Below.drew ?_) | (with_reducible refine below_draws ?_ _) | go_size | (simp [size_ext]; done) | (simp [size_ext]; omega))))⟩
  · rw [if_pos (by omega)]
    have z1 : (0 : Int) < (n : Int) := by omega
    rcases hop with ⟨rfl | rfl, rfl⟩ | ⟨rfl, rfl⟩
    all_goals
      go_enter Tryd.func39, Tryd.ntmps39
      go_wp2
      go_ret
      exact ⟨rfl, (by (repeat' (first | (with_reducible exact Below.refl _ _) | (with_reducible assumption) | (with_reducible refine below_ext0 ?_ _ _) | (with_reducible refine below_alloc0 ?_ _) | (with_reducible refine Below.ext ?_ ?_ _ _) | (with_reducible refine Below.alloc ?_ ?_ _) | (with_reducible refine Below.setCell ?_ ?_ _) | (with_reducible refine Below.drew ?_) | (with_reducible refine below_draws ?_ _) | go_size | (simp [size_ext]; done) | (simp [size_ext]; omega))))⟩
set_option maxHeartbeats 8000000 in
theorem mf_seven (w : World) (N : Int) (hm : n' ≤ maxLen) :
    Calls Tryd.prog 39 #[.agg #[.int .i64 7, .int .i64 N, .slice A n c, .slice A' n' c']] w fun e w' => e = .returned (.int .i64 (if 0 < n then 1 else if 16 < n' then 6 else rangeE N (8 * (n' : Int)))) ∧ Below w.heap.size w w' := by
  unfold maxLen at hm
  by_cases hn : n = 0
  · subst hn
    rw [if_neg (by omega)]
    by_cases hl : 16 < n'
    · rw [if_pos hl]
      have t0 : (16 : Int) < (n' : Int) := by omega
      go_enter Tryd.func39, Tryd.ntmps39
      go_wp2
      go_ret
      exact ⟨rfl, (by (repeat' (first | (with_reducible exact Below.refl _ _) | (with_reducible assumption) | (with_reducible refine below_ext0 ?_ _ _) | (with_reducible refine below_alloc0 ?_ _) | (with_reducible refine Below.ext ?_ ?_ _ _) | (with_reducible refine Below.alloc ?_ ?_ _) | (with_reducible refine Below.setCell ?_ ?_ _) | (with_reducible refine Below.drew ?_) | (with_reducible refine below_draws ?_ _) | go_size | (simp [size_ext]; done) | (simp [size_ext]; omega))))⟩
    · rw [if_neg hl]
      have t0 : ¬ (16 : Int) < (n' : Int) := by omega
      by_cases h0 : N < 0
      · rw [show rangeE N (8 * (n' : Int)) = 6 from if_pos (.inl h0)]
        go_enter Tryd.func39, Tryd.ntmps39
        go_wp2
        go_ret
        exact ⟨rfl, (by (repeat' (first | (with_reducible exact Below.refl _ _) | (with_reducible assumption) | (with_reducible refine below_ext0 ?_ _ _) | (with_reducible refine below_alloc0 ?_ _) | (with_reducible refine Below.ext ?_ ?_ _ _) | (with_reducible refine Below.alloc ?_ ?_ _) | (with_reducible refine Below.setCell ?_ ?_ _) | (with_reducible refine Below.drew ?_) | (with_reducible refine below_draws ?_ _) | go_size | (simp [size_ext]; done) | (simp [size_ext]; omega))))⟩
      · by_cases h1 : 8 * (n' : Int) < N
        · rw [show rangeE N (8 * (n' : Int)) = 6 from if_pos (.inr h1)]
          go_enter Tryd.func39, Tryd.ntmps39
          go_wp2
          go_ret
          exact ⟨rfl, (by (repeat' (first | (with_reducible exact Below.refl _ _) | (with_reducible assumption) | (with_reducible refine below_ext0 ?_ _ _) | (with_reducible refine below_alloc0 ?_ _) | (with_reducible refine Below.ext ?_ ?_ _ _) | (with_reducible refine Below.alloc ?_ ?_ _) | (with_reducible refine Below.setCell ?_ ?_ _) | (with_reducible refine Below.drew ?_) | (with_reducible refine below_draws ?_ _) | go_size | (simp [size_ext]; done) | (simp [size_ext]; omega))))⟩
        · rw [show rangeE N (8 * (n' : Int)) = 0 from if_neg (by omega)]
          go_enter Tryd.func39, Tryd.ntmps39
          go_wp2
          go_ret
          exact ⟨rfl, (by (repeat' (first | (with_reducible exact Below.refl _ _) | (with_reducible assumption) | (with_reducible refine below_ext0 ?_ _ _) | (with_reducible refine below_alloc0 ?_ _) | (with_reducible refine Below.ext ?_ ?_ _ _) | (with_reducible refine Below.alloc ?_ ?_ _) | (with_reducible refine Below.setCell ?_ ?_ _) | (with_reducible refine Below.drew ?_) | (with_reducible refine below_draws ?_ _) | go_size | (simp [size_ext]; done) | (simp [size_ext]; omega))))⟩
  · rw [if_pos (by omega)]
    have z1 : (0 : Int) < (n : Int) := by omega
    go_enter Tryd.func39, Tryd.ntmps39
    go_wp2
    go_ret
    exact ⟨rfl, (by (repeat' (first | (with_reducible exact Below.refl _ _) | (with_reducible assumption) | (with_reducible refine below_ext0 ?_ _ _) | (with_reducible refine below_alloc0 ?_ _) | (with_reducible refine Below.ext ?_ ?_ _ _) | (with_reducible refine Below.alloc ?_ ?_ _) | (with_reducible refine Below.setCell ?_ ?_ _) | (with_reducible refine Below.drew ?_) | (with_reducible refine below_draws ?_ _) | go_size | (simp [size_ext]; done) | (simp [size_ext]; omega))))⟩
end
theorem mfault_any (w : World) {A A' : Option Addr} {n c n' c' : Nat} {l : List ByteArray} {ad : List UInt8} (op N : Int) (h1 : Rd strR w w.heap.size A n c l) (h2 : Rd u8R w w.heap.size A' n' c' ad) :
    Calls Tryd.prog 39 #[.agg #[.int .i64 op, .int .i64 N, .slice A n c, .slice A' n' c']] w fun e w' => e = .returned (.int .i64 (matchErr (op, N, l, ad, ()))) ∧ Below w.heap.size w w' := by
  have l1 := h1.len
  have l2 := h2.len
  have m2 : n' ≤ maxLen := Nat.le_trans h2.cap h2.max
  unfold matchErr
  dsimp only
  by_cases h0 : op < 1 ∨ 10 < op
  · rw [if_pos h0]
    exact mf_none w op N h0
  · rw [if_neg h0, l1, l2]
    have ways : (op = 1 ∨ op = 6 ∨ op = 8 ∨ op = 9 ∨ op = 10) ∨ op = 2 ∨ (op = 3 ∨ op = 4) ∨ op = 5 ∨ op = 7 := by omega
    rcases ways with h | h | h | h | h
    · have hn : numOp op = false := by rcases h with rfl | rfl | rfl | rfl | rfl <;> rfl
      have key := mf_bare (A := A) (n := n) (c := c) (A' := A') (n' := n') (c' := c') w op N h
      by_cases hx : N ≠ 0 ∨ 0 < n ∨ 0 < n'
      · rw [if_pos hx] at key
        rw [if_pos (by rcases hx with hx | hx | hx; exact .inl ⟨hn, hx⟩; exact .inr (.inl ⟨by omega, hx⟩); exact .inr (.inr ⟨by omega, hx⟩))]
        exact key
      · rw [if_neg hx] at key
        rw [if_neg (by rintro (⟨_, h⟩ | ⟨_, h⟩ | ⟨_, h⟩) <;> omega), if_neg (by omega), if_neg (by omega)]
        have hm : mostM (op, N, l, ad, ()) = 65535 := by unfold mostM; rw [if_neg (by simp only; omega), if_neg (by simp only; omega)]
        rw [hm, if_neg (by omega)]
        exact key
    · subst h
      have key := mf_two (A := A) (n := n) (c := c) (A' := A') (n' := n') (c' := c') w N h1
      by_cases hx : N ≠ 0 ∨ 0 < n'
      · rw [if_pos hx] at key
        rw [if_pos (by rcases hx with hx | hx; exact .inl ⟨rfl, hx⟩; exact .inr (.inr ⟨by omega, hx⟩))]
        exact key
      · rw [if_neg hx] at key
        rw [if_neg (by rintro (⟨_, h⟩ | ⟨_, h⟩ | ⟨_, h⟩) <;> omega), if_pos rfl]
        exact key
    · have hn : numOp op = true := by rcases h with rfl | rfl <;> rfl
      have key := mf_num (A := A) (n := n) (c := c) (A' := A') (n' := n') (c' := c') w op N 65535 (.inl ⟨h, rfl⟩)
      by_cases hx : 0 < n ∨ 0 < n'
      · rw [if_pos hx] at key
        rw [if_pos (by rcases hx with hx | hx; exact .inr (.inl ⟨by omega, hx⟩); exact .inr (.inr ⟨by omega, hx⟩))]
        exact key
      · rw [if_neg hx] at key
        rw [if_neg (by rw [hn]; rintro (⟨h, _⟩ | ⟨_, h⟩ | ⟨_, h⟩); cases h; omega; omega), if_neg (by omega), if_neg (by omega)]
        have hm : mostM (op, N, l, ad, ()) = 65535 := by unfold mostM; rw [if_neg (by simp only; omega), if_neg (by simp only; omega)]
        rw [hm]
        exact key
    · subst h
      have key := mf_num (A := A) (n := n) (c := c) (A' := A') (n' := n') (c' := c') w 5 N 15 (.inr ⟨rfl, rfl⟩)
      by_cases hx : 0 < n ∨ 0 < n'
      · rw [if_pos hx] at key
        rw [if_pos (by rcases hx with hx | hx; exact .inr (.inl ⟨by omega, hx⟩); exact .inr (.inr ⟨by omega, hx⟩))]
        exact key
      · rw [if_neg hx] at key
        rw [if_neg (by rintro (⟨h, _⟩ | ⟨_, h⟩ | ⟨_, h⟩); cases h; omega; omega), if_neg (by omega), if_neg (by omega)]
        exact key
    · subst h
      have key := mf_seven (A := A) (n := n) (c := c) (A' := A') (n' := n') (c' := c') w N m2
      by_cases hx : 0 < n
      · rw [if_pos hx] at key
        rw [if_pos (.inr (.inl ⟨by omega, hx⟩))]
        exact key
      · rw [if_neg hx] at key
        rw [if_neg (by rintro (⟨h, _⟩ | ⟨_, h⟩ | ⟨h, _⟩); cases h; omega; omega), if_neg (by omega)]
        by_cases h16 : 16 < n'
        · rw [if_pos h16] at key
          rw [if_pos ⟨rfl, h16⟩]
          exact key
        · rw [if_neg h16] at key
          rw [if_neg (by omega)]
          have hm : mostM (7, N, l, ad, ()) = 8 * (n' : Int) := by unfold mostM; rw [if_neg (by simp), if_pos rfl]; simp only; rw [l2]
          rw [hm]
          exact key
/-- what is wrong with a rule -/
def ruleErr (r : List MT) : Int := match treeOf r with
  | .inl k => k
  | .inr _ => 0
theorem matches_at' {r : List MT} : ∀ {i : Nat} (hi : i < r.length), (∀ j (hj : j < r.length), j < i → matchErr r[j] = 0) → matchErr r[i] ≠ 0 → matchesErr r = matchErr r[i] := fun hi h0 hne => matches_at hi h0 hne
set_option maxRecDepth 100000 in
set_option maxHeartbeats 8000000 in
theorem rulefault_any (w : World) (A : Option Addr) (n c : Nat) (r : List MT) (h : Rd matchR w w.heap.size A n c r) :
    Calls Tryd.prog 22 #[.slice A n c] w fun e w' => e = .returned (.int .i64 (ruleErr r)) ∧ Below w.heap.size w w' := by
  have hm := h.max
  have hcap := h.cap
  unfold maxLen at hm
  have HR := hid h
  have HL := hid h.len
  clear h
  by_cases hlong : 200 < n
  · have HT := hid (show ruleErr r = 7 by unfold ruleErr treeOf; rw [if_pos (by rw [HL.out]; exact hlong)])
    have q1 : (200 : Int) < (n : Int) := by omega
    go_enter Tryd.func22, Tryd.ntmps22
    go_wp2
    go_ret
    exact ⟨by rw [HT.out]; rfl, (by (repeat' (first | (with_reducible exact Below.refl _ _) | (with_reducible assumption) | (with_reducible refine below_ext0 ?_ _ _) | (with_reducible refine below_alloc0 ?_ _) | (with_reducible refine Below.ext ?_ ?_ _ _) | (with_reducible refine Below.alloc ?_ ?_ _) | (with_reducible refine Below.setCell ?_ ?_ _) | (with_reducible refine Below.drew ?_) | (with_reducible refine below_draws ?_ _) | go_size | (simp [size_ext]; done) | (simp [size_ext]; omega))))⟩
  · have q1 : ¬ (200 : Int) < (n : Int) := by omega
    have hn200 : n ≤ 200 := by omega
    have tk0 : True := trivial; have tk1 : True := trivial; have tk2 : True := trivial; have tk3 : True := trivial; have tk4 : True := trivial; have tk5 : True := trivial; have tk6 : True := trivial; have tk7 : True := trivial; have tk8 : True := trivial; have tk9 : True := trivial; have tk10 : True := trivial; have tk11 : True := trivial; have tk12 : True := trivial
    go_enter Tryd.func22, Tryd.ntmps22
    go_wp2
    go_loopg [3] n (fun gk v3 wi => ∃ i : Nat, i ≤ n ∧ gk = n - i ∧ v3 = .int .i64 (i : Int) ∧ Hid (∀ j (hj : j < r.length), j < i → matchErr r[j] = 0) ∧ Below w.heap.size w wi)
    case atStart => exact ⟨0, Nat.zero_le _, rfl, rfl, hid fun j hj h => by omega, (by (repeat' (first | (with_reducible exact Below.refl _ _) | (with_reducible assumption) | (with_reducible refine below_ext0 ?_ _ _) | (with_reducible refine below_alloc0 ?_ _) | (with_reducible refine Below.ext ?_ ?_ _ _) | (with_reducible refine Below.alloc ?_ ?_ _) | (with_reducible refine Below.setCell ?_ ?_ _) | (with_reducible refine Below.drew ?_) | (with_reducible refine below_draws ?_ _) | go_size | (simp [size_ext]; done) | (simp [size_ext]; omega))))⟩
    case round =>
      obtain ⟨i, hi, rfl, rfl, h0, hlow⟩ := hrel
      have HLOW := hid hlow
      clear hlow
      by_cases hlt : i < n
      · obtain ⟨b, o, A1, n1, c1, A2, n2, c2, op, N, l, ad, rfl, hb, e1, k0, k1, k2, k3, r1, r2, hi64⟩ := (HR.out.later HLOW.out).match_ i hlt
        have hil : i < r.length := by rw [HL.out]; exact hlt
        have CN := fun (w' : World) (hb : Below wr.heap.size wr w') => mfault_any w' op N (r1.later hb) (r2.later hb)
        have t0 : (i : Int) < (n : Int) := by omega
        rw [← e1] at CN
        obtain ⟨E, hE⟩ : ∃ E, matchErr (r[i]'hil) = E := ⟨_, rfl⟩
        rw [hE] at CN
        have HE := hid hE
        replace CN := hid CN
        have v3 : IntKind.i64.wrap ((i : Int) + 1) = (i : Int) + 1 := IntWalk.i64_in _ (by omega)
        clear r1 r2 hi64 e1 hE
        by_cases hE0 : E = 0
        · subst hE0
          have H0 := hid (show ∀ j (hj : j < r.length), j < i + 1 → matchErr r[j] = 0 from fun j hj h => by
            by_cases e : j = i
            · subst e; exact HE.out
            · exact h0.out j hj (by omega))
          go_wp2_with (go_at_call 39; have _t := tk1; (with_reducible refine (CN.out _ (by (repeat' (first | (with_reducible exact Below.refl _ _) | (with_reducible assumption) | (with_reducible refine below_ext0 ?_ _ _) | (with_reducible refine below_alloc0 ?_ _) | (with_reducible refine Below.ext ?_ ?_ _ _) | (with_reducible refine Below.alloc ?_ ?_ _) | (with_reducible refine Below.setCell ?_ ?_ _) | (with_reducible refine Below.drew ?_) | (with_reducible refine below_draws ?_ _) | go_size | (simp [size_ext]; done) | (simp [size_ext]; omega))))).mono ?_); rintro e w1 ⟨rfl, hb⟩; obtain ⟨otk1, dtk1, rfl⟩ := ext_of_below hb; clear hb tk1)
          go_roundg (n - (i + 1))
          case measure => omega
          case rel => exact ⟨i + 1, by omega, rfl, by go_num, H0, by have := HLOW.out; have := HLOW.out.size; (repeat' (first | (with_reducible exact Below.refl _ _) | (with_reducible assumption) | (with_reducible refine below_ext0 ?_ _ _) | (with_reducible refine below_alloc0 ?_ _) | (with_reducible refine Below.ext ?_ ?_ _ _) | (with_reducible refine Below.alloc ?_ ?_ _) | (with_reducible refine Below.setCell ?_ ?_ _) | (with_reducible refine Below.drew ?_) | (with_reducible refine below_draws ?_ _) | go_size | (simp [size_ext]; done) | (simp [size_ext]; omega)))⟩
        · have HT := hid (show ruleErr r = E from by
            unfold ruleErr treeOf
            have hme := matches_at hil (fun j hj h => h0.out j hj h) (by rw [HE.out]; exact hE0)
            rw [if_neg (by rw [HL.out]; omega), hme, HE.out, if_pos hE0])
          have zE : (E != 0) = true := bne_iff_ne.2 hE0
          go_wp2_with (go_at_call 39; have _t := tk1; (with_reducible refine (CN.out _ (by (repeat' (first | (with_reducible exact Below.refl _ _) | (with_reducible assumption) | (with_reducible refine below_ext0 ?_ _ _) | (with_reducible refine below_alloc0 ?_ _) | (with_reducible refine Below.ext ?_ ?_ _ _) | (with_reducible refine Below.alloc ?_ ?_ _) | (with_reducible refine Below.setCell ?_ ?_ _) | (with_reducible refine Below.drew ?_) | (with_reducible refine below_draws ?_ _) | go_size | (simp [size_ext]; done) | (simp [size_ext]; omega))))).mono ?_); rintro e w1 ⟨rfl, hb⟩; obtain ⟨otk1, dtk1, rfl⟩ := ext_of_below hb; clear hb tk1)
          go_ret
          exact ⟨by rw [HT.out]; rfl, by have := HLOW.out; have := HLOW.out.size; (repeat' (first | (with_reducible exact Below.refl _ _) | (with_reducible assumption) | (with_reducible refine below_ext0 ?_ _ _) | (with_reducible refine below_alloc0 ?_ _) | (with_reducible refine Below.ext ?_ ?_ _ _) | (with_reducible refine Below.alloc ?_ ?_ _) | (with_reducible refine Below.setCell ?_ ?_ _) | (with_reducible refine Below.drew ?_) | (with_reducible refine below_draws ?_ _) | go_size | (simp [size_ext]; done) | (simp [size_ext]; omega)))⟩
      · obtain rfl : i = n := by omega
        have HM := hid (show matchesErr r = 0 from matchesErr_zero.2 fun m hm => by
          obtain ⟨j, hj, rfl⟩ := List.getElem_of_mem hm
          exact h0.out j hj (by have := HL.out; omega))
        have t0 : ¬ (i : Int) < (i : Int) := by omega
        obtain ⟨wl, hwl⟩ : ∃ wl, wl = wr := ⟨_, rfl⟩
        subst hwl
        clear h0
        go_wp2
        go_loopg [5, 6] i (fun gk v5 v6 wi => ∃ (k : Nat) (st : List Tree) (hv : Nat), k ≤ i ∧ gk = i - k ∧ v6 = .int .i64 (k : Int) ∧ v5 = .int .i64 (hv : Int) ∧ hv ≤ k ∧ Hid (st.length = hv) ∧ Hid (stackT (r.take k) [] = some st) ∧ wi = wl)
        case atStart => exact ⟨0, [], 0, Nat.zero_le _, rfl, rfl, rfl, Nat.le_refl _, hid rfl, hid rfl, rfl⟩
        case round =>
          obtain ⟨k, st, hv, hk, rfl, rfl, rfl, hvk, hsl, hst, hww⟩ := hrel
          subst hww
          by_cases hlt2 : k < i
          · obtain ⟨b, o, A1, n1, c1, A2, n2, c2, op, N, l, ad, rfl, hb, e1, k0, _, _, _, _, _, _⟩ := (HR.out.later HLOW.out).match_ k hlt2
            have hil : k < r.length := by rw [HL.out]; exact hlt2
            have CT := rtakes_any op
            obtain ⟨tk, htk⟩ : ∃ tk, takesN op = tk := ⟨_, rfl⟩
            rw [htk] at CT
            have ht2 : tk ≤ 2 := by rw [← htk]; exact takes_le op
            have hss := stack_step hil hst.out
            rw [e1] at hss
            have t0 : (k : Int) < (i : Int) := by omega
            have v3 : IntKind.i64.wrap ((k : Int) + 1) = (k : Int) + 1 := IntWalk.i64_in _ (by omega)
            replace CT := hid CT
            by_cases hfew : hv < tk
            · have HT := hid (show ruleErr r = 1 from by
                have hp : pushT (op, N, l, ad, ()) st = none := by
                  unfold pushT
                  simp only [htk, hsl.out]
                  rw [if_neg (by omega)]
                rw [hp] at hss
                have hn := stack_none hss
                unfold ruleErr treeOf
                rw [if_neg (by rw [HL.out]; omega), if_neg (by rw [HM.out]; simp), hn])
              have t1 : (hv : Int) < (tk : Int) := by omega
              clear hss htk e1
              go_wp2_with (go_at_call 40; have _t := tk2; (with_reducible refine (CT.out _).mono ?_); rintro e w1 ⟨rfl, hw⟩; subst w1; clear tk2)
              go_ret
              exact ⟨by rw [HT.out]; rfl, HLOW.out⟩
            · have hpp : pushT (op, N, l, ad, ()) st = some (st.take (st.length - tk) ++ [mkT (op, N, l, ad, ()) (st.drop (st.length - tk))]) := by
                unfold pushT
                simp only [htk]
                rw [if_pos (by rw [hsl.out]; omega)]
              rw [hpp] at hss
              have HST2 := hid hss
              obtain ⟨hv2, hhv2⟩ : ∃ hv2, hv + 1 - tk = hv2 := ⟨_, rfl⟩
              have HSL2 := hid (show (st.take (st.length - tk) ++ [mkT (op, N, l, ad, ()) (st.drop (st.length - tk))]).length = hv2 by rw [List.length_append, List.length_take, List.length_singleton, hsl.out]; omega)
              have t1 : ¬ (hv : Int) < (tk : Int) := by omega
              have v4 : IntKind.i64.wrap (1 - (tk : Int)) = 1 - (tk : Int) := IntWalk.i64_in _ (by omega)
              have v5 : (hv : Int) + (1 - (tk : Int)) = (hv2 : Int) := by omega
              have v6 : IntKind.i64.wrap ((hv : Int) + (1 - (tk : Int))) = (hv2 : Int) := by rw [IntWalk.i64_in _ (by omega)]; exact v5
              have hv2k : hv2 ≤ k + 1 := by omega
              clear hss hpp htk e1 hhv2
              go_wp2_with (go_at_call 40; have _t := tk2; (with_reducible refine (CT.out _).mono ?_); rintro e w1 ⟨rfl, hw⟩; subst w1; clear tk2)
              go_roundg (i - (k + 1))
              case measure => omega
              case rel => exact ⟨k + 1, _, hv2, by omega, rfl, by go_num, rfl, hv2k, HSL2, HST2, rfl⟩
          · obtain rfl : k = i := by omega
            have hfull : stackT r [] = some st := by
              have := hst.out
              rwa [List.take_of_length_le (by rw [HL.out]; exact Nat.le_refl _)] at this
            have t0 : ¬ (k : Int) < (k : Int) := by omega
            by_cases hone : hv = 1
            · subst hone
              have HT := hid (show ruleErr r = 0 from by
                unfold ruleErr treeOf
                rw [if_neg (by rw [HL.out]; omega), if_neg (by rw [HM.out]; simp), hfull]
                match st, hsl.out with
                | [t], _ => rfl)
              clear hfull
              go_wp2
              go_ret
              exact ⟨by rw [HT.out]; rfl, HLOW.out⟩
            · have HT := hid (show ruleErr r = 1 from by
                unfold ruleErr treeOf
                rw [if_neg (by rw [HL.out]; omega), if_neg (by rw [HM.out]; simp), hfull]
                match st, hsl.out with
                | [], _ => rfl
                | [t], h => exact absurd h.symm hone
                | a :: b :: q, _ => rfl)
              have t1 : ((hv : Int) != 1) = true := bne_iff_ne.2 (by omega)
              clear hfull
              go_wp2
              go_ret
              exact ⟨by rw [HT.out]; rfl, HLOW.out⟩
end Go.Proofs.YtemgbfppdopfbaaDoor
