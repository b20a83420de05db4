/- Plain laws of masked addresses: less of less. No function of the program. -/
import Derived.Test.YtemgbfppdopfbaaDoorMask
namespace Go.Proofs.YtemgbfppdopfbaaDoor
open Go.RowKit
set_option linter.unusedVariables false
set_option linter.unusedSimpArgs false

theorem div_mul_le {a c x : Nat} (h : a ≤ c) : x / 2 ^ a * 2 ^ a / 2 ^ c * 2 ^ c = x / 2 ^ c * 2 ^ c := by
  obtain ⟨d, rfl⟩ := Nat.exists_eq_add_of_le h
  rw [Nat.pow_add, ← Nat.div_div_eq_div_mul, Nat.mul_div_cancel _ (Nat.two_pow_pos a), Nat.div_div_eq_div_mul]
theorem div_mul_ge {a c x : Nat} (h : c ≤ a) : x / 2 ^ a * 2 ^ a / 2 ^ c * 2 ^ c = x / 2 ^ a * 2 ^ a := by
  obtain ⟨d, rfl⟩ := Nat.exists_eq_add_of_le h
  apply Nat.div_mul_cancel
  rw [Nat.pow_add]
  exact Nat.dvd_trans (Nat.dvd_mul_right _ _) (Nat.dvd_mul_left _ _)
theorem ofNat_mask (x e : Nat) (h : x < 256) : (UInt8.ofNat (x / 2 ^ e * 2 ^ e)).toNat = x / 2 ^ e * 2 ^ e := by
  have : x / 2 ^ e * 2 ^ e ≤ x := Nat.div_mul_le_self _ _
  rw [UInt8.toNat_ofNat', Nat.mod_eq_of_lt (by omega)]
theorem maskB_le0 {b : UInt8} {i : Int} (h : i ≤ 0) : maskB b i = 0 := if_pos h
theorem maskB_ge8 {b : UInt8} {i : Int} (h : 8 ≤ i) : maskB b i = b := by rw [maskB, if_neg (by omega), if_neg (by omega)]
theorem maskB_zero (i : Int) : maskB 0 i = 0 := by
  unfold maskB
  split
  · rfl
  · split
    · simp
    · rfl
theorem maskB_maskB (b : UInt8) (i j : Int) : maskB (maskB b i) j = maskB b (if i ≤ j then i else j) := by
  by_cases hi : i ≤ 0
  · rw [maskB_le0 hi, maskB_zero]
    split
    · rw [maskB_le0 hi]
    · rw [maskB_le0 (by omega)]
  · by_cases hj : j ≤ 0
    · rw [maskB_le0 hj, if_neg (by omega), maskB_le0 hj]
    · by_cases hi8 : 8 ≤ i
      · rw [maskB_ge8 hi8]
        split
        · rw [maskB_ge8 hi8, maskB_ge8 (by omega)]
        · rfl
      · by_cases hj8 : 8 ≤ j
        · rw [maskB_ge8 hj8, if_pos (by omega)]
        · have hb := b.toNat_lt
          have e1 : maskB b i = UInt8.ofNat (b.toNat / 2 ^ (8 - i.toNat) * 2 ^ (8 - i.toNat)) := by rw [maskB, if_neg hi, if_pos (by omega)]
          have e2 : maskB (maskB b i) j = UInt8.ofNat ((maskB b i).toNat / 2 ^ (8 - j.toNat) * 2 ^ (8 - j.toNat)) := by rw [maskB, if_neg hj, if_pos (by omega)]
          rw [e2, e1, ofNat_mask _ _ hb]
          split
          · rw [div_mul_ge (by omega), e1]
          · rw [div_mul_le (by omega), maskB, if_neg hj, if_pos (by omega)]
/-- less of less -/
theorem maskL_maskL (l : List UInt8) (i j : Int) : maskL (maskL l i) j = maskL l (if i ≤ j then i else j) := by
  unfold maskL
  apply List.ext_getElem (by simp)
  intro k h1 h2
  simp only [List.getElem_mapIdx]
  rw [maskB_maskB]
  congr 1
  split <;> split <;> omega
theorem maskL_less {l m : List UInt8} {i j : Int} (h : maskL l i = maskL m i) (hij : j ≤ i) : maskL l j = maskL m j := by
  have := congrArg (fun x => maskL x j) h
  simp only [maskL_maskL] at this
  by_cases e : i ≤ j
  · rw [show j = i by omega]; exact h
  · rwa [if_neg e] at this
theorem maskL_getElem (l : List UInt8) (i : Int) (k : Nat) (h : k < (maskL l i).length) : (maskL l i)[k] = maskB (l[k]'(by rw [maskL_len] at h; exact h)) (i - 8 * (k : Int)) := by simp [maskL]
/-- its bytes that have a bit, and 0 behind -/
theorem maskL_fill (l : List UInt8) (s : Int) (m : Nat) (h0 : 0 ≤ s) (h1 : s ≤ 8 * (l.length : Int)) (hm : (m : Int) = (s + 7) / 8) : (maskL l s).take m ++ List.replicate (l.length - m) 0 = maskL l s := by
  apply List.ext_getElem
  · simp [maskL_len]; omega
  · intro k a b
    rw [maskL_len] at b
    by_cases c : k < m
    · rw [List.getElem_append_left (by simp [maskL_len]; omega), List.getElem_take]
    · rw [List.getElem_append_right (by simp [maskL_len]; omega), List.getElem_replicate, maskL_getElem, maskB_le0 (by omega)]
theorem maskL_take (l : List UInt8) (s : Int) (m : Nat) : maskL (l.take m) s = (maskL l s).take m := by
  apply List.ext_getElem
  · simp [maskL_len]
  · intro k a b
    rw [maskL_getElem, List.getElem_take, List.getElem_take, maskL_getElem]
/-- masked, filled up and masked again -/
theorem maskL_pad (r : List UInt8) (s : Int) (n : Nat) (h : r = maskL r s) : maskL (r ++ List.replicate n 0) s = r ++ List.replicate n 0 := by
  apply List.ext_getElem
  · simp [maskL_len]
  · intro k a b
    rw [maskL_getElem]
    by_cases c : k < r.length
    · rw [List.getElem_append_left c]
      have := maskL_getElem r s k (by rw [maskL_len]; exact c)
      rw [← this]
      exact (List.getElem_of_eq h c).symm
    · rw [List.getElem_append_right (by omega)]
      simp [maskB_zero]
end Go.Proofs.YtemgbfppdopfbaaDoor
