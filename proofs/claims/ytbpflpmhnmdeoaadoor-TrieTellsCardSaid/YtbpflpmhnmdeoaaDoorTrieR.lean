/- Rows of beginnings, plain: the longest one of an address, how many unlike ones there are. No function of the program. -/
import Derived.Test.YtbpflpmhnmdeoaaDoorTrieQ
namespace Go.Proofs.YtbpflpmhnmdeoaaDoor
open Go.RowKit
set_option linter.unusedVariables false

/-- does an address begin so? -/
def fitB (x : BT) (q : List UInt8) : Bool := decide (x.2.1 ≤ 8 * (q.length : Int) ∧ ∀ i, i < x.2.1.toNat → bitL x.1 i = bitL q i)
def betterB (bs : List BT) (k : Nat) : Option Nat → Bool
  | none => true
  | some j => decide ((bAt bs j).2.1 ≤ (bAt bs k).2.1)
/-- the longest one of the first so many -/
def longK (bs : List BT) (q : List UInt8) : Nat → Option Nat
  | 0 => none
  | k + 1 => if (fitB (bAt bs k) q && betterB bs k (longK bs q k)) = true then some k else longK bs q k
theorem longK_lt {bs : List BT} {q : List UInt8} {k j : Nat} (h : longK bs q k = some j) : j < k := by
  induction k with
  | zero => cases h
  | succ k ih =>
    unfold longK at h
    split at h
    · cases h; omega
    · have := ih h; omega
def tellL (bs : List BT) : Option Nat → Int × Nat × Bool
  | none => (0, 0, false)
  | some j => ((bAt bs j).2.2.1, (bAt bs j).2.1.toNat, true)
theorem long_get {bs : List BT} (hr : ∀ i, i < bs.length → rightAt bs i = true) (q : List UInt8) : ∀ k, k ≤ bs.length → getV (valsI bs (List.range k)) (bitsL q) = tellL bs (longK bs q k) := by
  intro k
  induction k with
  | zero =>
    intro _
    unfold getV
    rw [bestV_isNone fun j _ => rfl]
    rfl
  | succ k ih =>
    intro hk
    have h1 := ih (by omega)
    have hrk := hr k (by omega)
    obtain ⟨_, r2, r3⟩ := of_decide_eq_true hrk
    have r3' : (bAt bs k).2.1.toNat ≤ 8 * (bAt bs k).1.length := by omega
    have hkl : (keyAt bs k).length = (bAt bs k).2.1.toNat := by unfold keyAt keyB; rw [List.length_take, bitsL_len]; omega
    rw [List.range_succ, valsI_snoc, stepV_right hrk]
    have hfit : fitB (bAt bs k) q = true ↔ (keyAt bs k = (bitsL q).take (keyAt bs k).length ∧ (keyAt bs k).length ≤ (bitsL q).length) := by
      unfold fitB
      rw [decide_eq_true_iff, hkl, bitsL_len]
      constructor
      · rintro ⟨a, b⟩
        exact ⟨(bits_alike r3' (by omega)).2 b, by omega⟩
      · rintro ⟨a, b⟩
        exact ⟨by omega, (bits_alike r3' b).1 a⟩
    have hbet : betterB bs k (longK bs q k) = true ↔ ((getV (valsI bs (List.range k)) (bitsL q)).2.2 = false ∨ (getV (valsI bs (List.range k)) (bitsL q)).2.1 ≤ (keyAt bs k).length) := by
      rw [h1, hkl]
      cases hl : longK bs q k with
      | none => simp [betterB, tellL]
      | some j =>
        have hj := longK_lt hl
        obtain ⟨_, j2, _⟩ := of_decide_eq_true (hr j (by omega))
        simp only [betterB, tellL, decide_eq_true_iff]
        constructor
        · intro h; exact .inr (by omega)
        · rintro (h | h)
          · cases h
          · omega
    unfold longK
    by_cases hc : (fitB (bAt bs k) q && betterB bs k (longK bs q k)) = true
    · rw [if_pos hc]
      rw [Bool.and_eq_true] at hc
      obtain ⟨a, b⟩ := hc
      obtain ⟨a1, a2⟩ := hfit.1 a
      have := getV_put_fits (V := valsI bs (List.range k)) (bs := bitsL q) (n := (keyAt bs k).length) (v := (bAt bs k).2.2.1) a2 (hbet.1 b)
      rw [← a1] at this
      rw [this, hkl]
      rfl
    · rw [if_neg hc, ← h1]
      refine getV_put_not fun ⟨a, b, c⟩ => hc ?_
      rw [Bool.and_eq_true]
      exact ⟨hfit.2 ⟨a, b⟩, hbet.2 c⟩

theorem valsI_isNone {bs : List BT} (hr : ∀ i, i < bs.length → rightAt bs i = true) (q : List Bool) : ∀ k, k ≤ bs.length → (valsI bs (List.range k) q = none ↔ ∀ j, j < k → keyAt bs j ≠ q) := by
  intro k
  induction k with
  | zero => intro _; exact ⟨fun _ j hj => by omega, fun _ => rfl⟩
  | succ k ih =>
    intro hk
    rw [List.range_succ, valsI_snoc, stepV_right (hr k (by omega))]
    by_cases e : q = keyAt bs k
    · subst e
      rw [putV_same]
      exact ⟨fun h => (by cases h), fun h => absurd rfl (h k (by omega))⟩
    · rw [putV_other _ _ e, ih (by omega)]
      constructor
      · intro h j hj
        by_cases ej : j = k
        · subst ej; exact fun h => e h.symm
        · exact h j (by omega)
      · intro h j hj; exact h j (by omega)
/-- is it unlike all ahead of it? -/
def freshB (bs : List BT) (i : Nat) : Bool := (List.range i).all fun j => decide (keyAt bs j ≠ keyAt bs i)
theorem freshB_iff (bs : List BT) (i : Nat) : freshB bs i = true ↔ ∀ j, j < i → keyAt bs j ≠ keyAt bs i := by
  unfold freshB
  rw [List.all_eq_true]
  constructor
  · intro h j hj; exact of_decide_eq_true (h j (List.mem_range.2 hj))
  · intro h j hj; exact decide_eq_true (h j (List.mem_range.1 hj))
/-- how many unlike ones there are among the first so many -/
def kindsK (bs : List BT) : Nat → Nat
  | 0 => 0
  | k + 1 => if freshB bs k = true then kindsK bs k + 1 else kindsK bs k
theorem kindsK_le (bs : List BT) (k : Nat) : kindsK bs k ≤ k := by
  induction k with
  | zero => exact Nat.le_refl _
  | succ k ih => unfold kindsK; split <;> omega
theorem kinds_step {bs : List BT} (hr : ∀ i, i < bs.length → rightAt bs i = true) {k : Nat} (hk : k < bs.length) :
    stepC (valsI bs (List.range k)) (kindsK bs k : Int) (bAt bs k).1 (bAt bs k).2.1 = (kindsK bs (k + 1) : Int) := by
  have h1 : rightB (bAt bs k).1 (bAt bs k).2.1 = true := hr k hk
  unfold stepC cntV
  rw [if_pos h1, show keyB (bAt bs k).1 (bAt bs k).2.1 = keyAt bs k from rfl]
  have h2 := valsI_isNone hr (keyAt bs k) k (by omega)
  rw [← freshB_iff] at h2
  rw [kindsK]
  cases hv : valsI bs (List.range k) (keyAt bs k) with
  | none => rw [if_pos (h2.1 hv)]; simp
  | some v =>
    have hf : ¬ freshB bs k = true := fun h => by rw [h2.2 h] at hv; cases hv
    rw [if_neg hf]
    rfl
/-- one more behind changes nothing ahead -/
theorem bAt_snoc {bs : List BT} {x : BT} {i : Nat} (hi : i < bs.length) : bAt (bs ++ [x]) i = bAt bs i := by
  unfold bAt
  rw [List.getD_eq_getElem?_getD, List.getD_eq_getElem?_getD, List.getElem?_append_left hi]
theorem bAt_last (bs : List BT) (x : BT) : bAt (bs ++ [x]) bs.length = x := by
  unfold bAt
  rw [List.getD_eq_getElem?_getD]
  simp
theorem valsI_more {bs : List BT} {x : BT} : ∀ k, k ≤ bs.length → valsI (bs ++ [x]) (List.range k) = valsI bs (List.range k) := by
  intro k
  induction k with
  | zero => intro _; rfl
  | succ k ih =>
    intro hk
    rw [List.range_succ, valsI_snoc, valsI_snoc, ih (by omega), bAt_snoc (by omega)]
theorem kindsK_more {bs : List BT} {x : BT} : ∀ k, k ≤ bs.length → kindsK (bs ++ [x]) k = kindsK bs k := by
  intro k
  induction k with
  | zero => intro _; rfl
  | succ k ih =>
    intro hk
    have : freshB (bs ++ [x]) k = freshB bs k := by
      rw [Bool.eq_iff_iff, freshB_iff, freshB_iff]
      have e : ∀ j, j ≤ k → keyAt (bs ++ [x]) j = keyAt bs j := fun j hj => by unfold keyAt; rw [bAt_snoc (by omega)]
      rw [e k (Nat.le_refl _)]
      constructor
      · intro h j hj; rw [← e j (by omega)]; exact h j hj
      · intro h j hj; rw [e j (by omega)]; exact h j hj
    rw [kindsK, kindsK, ih (by omega), this]
/-- what a trie holds, and how many, when one more was put that may be -/
theorem more_v {bs : List BT} {x : BT} (hx : rightB x.1 x.2.1 = true) : stepV (valsI bs (List.range bs.length)) x.1 x.2.1 x.2.2.1 = valsI (bs ++ [x]) (List.range (bs ++ [x]).length) := by
  rw [List.length_append, List.length_singleton, List.range_succ, valsI_snoc, valsI_more _ (Nat.le_refl _), bAt_last]
theorem more_c {bs : List BT} (hr : ∀ i, i < bs.length → rightAt bs i = true) {x : BT} (hx : rightB x.1 x.2.1 = true) : stepC (valsI bs (List.range bs.length)) (kindsK bs bs.length : Int) x.1 x.2.1 = (kindsK (bs ++ [x]) (bs ++ [x]).length : Int) := by
  have hr' : ∀ i, i < (bs ++ [x]).length → rightAt (bs ++ [x]) i = true := fun i hi => by
    unfold rightAt
    by_cases h : i < bs.length
    · rw [bAt_snoc h]; exact hr i h
    · have : i = bs.length := by simp at hi; omega
      subst this
      rw [bAt_last]; exact hx
  have h := kinds_step hr' (k := bs.length) (by simp)
  rw [valsI_more _ (Nat.le_refl _), kindsK_more _ (Nat.le_refl _), bAt_last] at h
  rw [h, List.length_append]
  rfl
theorem right_more {bs : List BT} (hr : ∀ i, i < bs.length → rightAt bs i = true) {x : BT} (hx : rightB x.1 x.2.1 = true) : ∀ i, i < (bs ++ [x]).length → rightAt (bs ++ [x]) i = true := fun i hi => by
  unfold rightAt
  by_cases h : i < bs.length
  · rw [bAt_snoc h]; exact hr i h
  · have : i = bs.length := by simp at hi; omega
    subst this
    rw [bAt_last]; exact hx
end Go.Proofs.YtbpflpmhnmdeoaaDoor
