/- Names: slices.Reverse of a row of the call's own; Compare. -/
import Derived.Test.YtemgbfppdopfbaaDoorNameC
import Derived.BigRegion
namespace Go.Proofs.YtemgbfppdopfbaaDoor
open Go.RowKit
set_option linter.unusedVariables false
set_option linter.unusedSimpArgs false

/-- k of the first ones and of the last ones changed over -/
def revK (l : List ByteArray) (k : Nat) : List ByteArray := (List.range l.length).map fun i => if i < k ∨ l.length - k ≤ i then l.getD (l.length - 1 - i) .empty else l.getD i .empty
theorem revK_len (l : List ByteArray) (k : Nat) : (revK l k).length = l.length := by simp [revK]
theorem revK_get (l : List ByteArray) (k i : Nat) (h : i < l.length) : (revK l k)[i]? = some (if i < k ∨ l.length - k ≤ i then l.getD (l.length - 1 - i) .empty else l.getD i .empty) := by
  unfold revK
  rw [List.getElem?_map, List.getElem?_range h]; rfl
theorem revK_zero (l : List ByteArray) : revK l 0 = l := by
  apply List.ext_getElem?
  intro i
  by_cases h : i < l.length
  · rw [revK_get l 0 i h, if_neg (by omega), List.getD_eq_getElem?_getD, List.getElem?_eq_getElem h]; rfl
  · rw [List.getElem?_eq_none (by rw [revK_len]; omega), List.getElem?_eq_none (by omega)]
theorem revK_all (l : List ByteArray) (k : Nat) (h : l.length ≤ 2 * k + 1) : revK l k = l.reverse := by
  apply List.ext_getElem?
  intro i
  by_cases hi : i < l.length
  · rw [revK_get l k i hi, List.getElem?_reverse hi]
    by_cases c : i < k ∨ l.length - k ≤ i
    · rw [if_pos c, List.getD_eq_getElem?_getD, List.getElem?_eq_getElem (by omega)]; rfl
    · rw [if_neg c, show l.length - 1 - i = i by omega, List.getD_eq_getElem?_getD, List.getElem?_eq_getElem hi]; rfl
  · rw [List.getElem?_eq_none (by rw [revK_len]; omega), List.getElem?_eq_none (by simp; omega)]
theorem revK_succ (l : List ByteArray) (k : Nat) (h : 2 * k + 1 < l.length) : revK l (k + 1) = ((revK l k).set k (l.getD (l.length - 1 - k) .empty)).set (l.length - 1 - k) (l.getD k .empty) := by
  apply List.ext_getElem?
  intro i
  by_cases hi : i < l.length
  · rw [revK_get l (k + 1) i hi, List.getElem?_set, List.getElem?_set, List.length_set, revK_len, revK_get l k i hi]
    by_cases c1 : l.length - 1 - k = i
    · subst c1
      rw [if_pos (by omega), if_pos rfl, if_pos (by omega), show l.length - 1 - (l.length - 1 - k) = k by omega]
    · rw [if_neg c1]
      by_cases c2 : k = i
      · subst c2
        rw [if_pos (by omega), if_pos rfl, if_pos (by omega)]
      · rw [if_neg c2]
        congr 1
        by_cases c3 : i < k ∨ l.length - k ≤ i
        · rw [if_pos c3, if_pos (by omega)]
        · rw [if_neg c3, if_neg (by omega)]
  · rw [List.getElem?_eq_none (by rw [revK_len]; omega), List.getElem?_eq_none (by simp [revK_len]; omega)]
theorem strsV_set (l : List ByteArray) (k : Nat) (b : ByteArray) : strsV (l.set k b) = (strsV l).set k (.string b) := by simp [strsV, List.map_set]

/-! Compare -/
theorem ne_blocks {v1 v2 : Value} {m : Nat} (h1 : ∀ g, v1.ownBlock = some g → g < m) (h2 : ∀ g, v2.ownBlock = some g → m ≤ g) : (v2.ownBlock = none ∨ v2.ownBlock ≠ v1.ownBlock) ∧ (v1.ownBlock = none ∨ v1.ownBlock ≠ v2.ownBlock) := by
  cases e1 : v1.ownBlock with
  | none => exact ⟨by cases e2 : v2.ownBlock <;> simp, .inl rfl⟩
  | some g1 =>
    cases e2 : v2.ownBlock with
    | none => exact ⟨.inl rfl, .inr (by simp)⟩
    | some g2 =>
      have a := h1 g1 e1
      have b := h2 g2 e2
      exact ⟨.inr (by simp; omega), .inr (by simp; omega)⟩
theorem own_rd_str {w : World} {base n : Nat} {v : Value} {l : List ByteArray} (h : w.ownsRow base 9 1 v n (strsV l)) (hs : ∀ s ∈ l, s.size ≤ 140737488355328) (hb : base ≤ w.heap.size) (hn : n * 16 ≤ 140737488355328) : ∃ A c, v = .slice A n c ∧ Rd strR w w.heap.size A n c l :=
  rd_of_own (R := strR) h (rels_str hs) (by have := h.1; simpa [strsV] using this) hb (by simpa [strR] using hn) (by decide)

end Go.Proofs.YtemgbfppdopfbaaDoor
