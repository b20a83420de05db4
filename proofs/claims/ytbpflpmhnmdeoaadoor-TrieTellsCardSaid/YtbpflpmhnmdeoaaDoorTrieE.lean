/- The document's answers on rows of beginnings: Right, Unlike. -/
import Derived.Test.YtbpflpmhnmdeoaaDoorTrieQ
namespace Go.Proofs.YtbpflpmhnmdeoaaDoor
open Go.RowKit
set_option linter.unusedVariables false

abbrev beginV (A : Option Addr) (n c : Nat) (m v : Int) : Value := .agg #[.slice A n c, .int .i64 m, .int .i64 v]
set_option maxRecDepth 100000 in
theorem right_any {A : Option Addr} {n c : Nat} {l : List UInt8} (hl : l.length = n) (hn : n ≤ 140737488355328) (m v : Int) (hm : I64 m) (w : World) :
    Calls Tryd.prog 14 #[beginV A n c m v] w fun e w' => e = .returned (.bool (rightB l m)) ∧ Below w.heap.size w w' := by
  have ways : (16 < n ∧ rightB l m = false) ∨ (n ≤ 16 ∧ m < 0 ∧ rightB l m = false) ∨ (n ≤ 16 ∧ 0 ≤ m ∧ 8 * (n : Int) < m ∧ rightB l m = false) ∨ (n ≤ 16 ∧ 0 ≤ m ∧ m ≤ 8 * (n : Int) ∧ rightB l m = true) := by
    unfold rightB
    rw [hl]
    by_cases h1 : n ≤ 16 <;> by_cases h2 : 0 ≤ m <;> by_cases h3 : m ≤ 8 * (n : Int) <;> simp [h1, h2, h3] <;> omega
  obtain ⟨hm1, hm2⟩ := hm
  rcases ways with ⟨h1, h⟩ | ⟨h1, h2, h⟩ | ⟨h1, h2, h3, h⟩ | ⟨h1, h2, h3, h⟩
  all_goals
    rw [h]
    clear h hl
    go_enter Tryd.func14, Tryd.ntmps14
    go_wp2
    go_ret
    exact ⟨by first | rfl | (simp; done) | (simp; omega), by (repeat' (first | (with_reducible exact Below.refl _ _) | (with_reducible assumption) | (with_reducible refine below_ext0 ?_ _ _) | (with_reducible refine below_alloc0 ?_ _) | (with_reducible refine Below.ext ?_ ?_ _ _) | (with_reducible refine Below.alloc ?_ ?_ _) | (with_reducible refine Below.setCell ?_ ?_ _) | (with_reducible refine Below.drew ?_) | (with_reducible refine below_draws ?_ _) | go_size | (simp [size_ext]; done) | (simp [size_ext]; omega)))⟩

theorem rightB_alike {a b : List UInt8} {m : Int} (ha : rightB a m = true) (hb : rightB b m = true) : (∀ i, i < m.toNat → bitL a i = bitL b i) ↔ keyB a m = keyB b m := by
  obtain ⟨_, a1, a2⟩ := of_decide_eq_true ha
  obtain ⟨_, b1, b2⟩ := of_decide_eq_true hb
  exact (bits_alike (by omega) (by omega)).symm
theorem keyB_len {a : List UInt8} {m : Int} (ha : rightB a m = true) : (keyB a m).length = m.toNat := by
  obtain ⟨_, a1, a2⟩ := of_decide_eq_true ha
  unfold keyB
  rw [List.length_take, bitsL_len]
  omega
theorem key_ne {a b : List UInt8} {m k : Int} (ha : rightB a m = true) (hb : rightB b k = true) (h : m ≠ k) : keyB a m ≠ keyB b k := fun e => by
  have := congrArg List.length e
  rw [keyB_len ha, keyB_len hb] at this
  obtain ⟨_, a1, _⟩ := of_decide_eq_true ha
  obtain ⟨_, b1, _⟩ := of_decide_eq_true hb
  omega
open Classical in
noncomputable def unlB (bs : List BT) : Bool := decide (Unl bs)
theorem unlB_iff (bs : List BT) : unlB bs = true ↔ Unl bs := by unfold unlB; simp
theorem unlB_true {bs : List BT} (h : Unl bs) : unlB bs = true := (unlB_iff bs).2 h
theorem unlB_false {bs : List BT} (h : ¬ Unl bs) : unlB bs = false := by
  cases e : unlB bs
  · rfl
  · exact absurd ((unlB_iff bs).1 e) h
theorem alike_below {w : World} {B1 n1 c1 : Nat} {A1 : Option Addr} {l1 : List UInt8} (h1 : Rd u8R w B1 A1 n1 c1 l1) {B2 n2 c2 : Nat} {A2 : Option Addr} {l2 : List UInt8} (h2 : Rd u8R w B2 A2 n2 c2 l2) (m : Nat) {y : Int} (hy : y = (m : Int)) (hm1 : m ≤ 8 * n1) (hm2 : m ≤ 8 * n2) :
    Calls Tryd.prog 35 #[.slice A1 n1 c1, .slice A2 n2 c2, .int .i64 y] w fun e w' => e = .returned (.bool (decide (∀ i, i < m → bitL l1 i = bitL l2 i))) ∧ Below w.heap.size w w' :=
  (alike_any h1 h2 m hy hm1 hm2).mono fun _ _ ⟨h, e⟩ => ⟨h, by subst e; exact Below.refl _ _⟩

end Go.Proofs.YtbpflpmhnmdeoaaDoor
