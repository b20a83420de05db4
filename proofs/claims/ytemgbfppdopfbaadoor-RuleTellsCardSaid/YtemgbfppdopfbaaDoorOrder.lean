/- Plain laws of names in a row: three-way comparison, one behind the other; ends of names. No walk. -/
import Derived.Test.YtemgbfppdopfbaaDoorNameD
namespace Go.Proofs.YtemgbfppdopfbaaDoor
open Go.RowKit
set_option linter.unusedVariables false
set_option linter.unusedSimpArgs false

structure Ord3 {α : Type} (c : α → α → Int) : Prop where
  tri : ∀ x y, c x y = -1 ∨ c x y = 0 ∨ c x y = 1
  anti : ∀ x y, c y x = - c x y
  trans : ∀ x y z, c x y ≤ 0 → c y z ≤ 0 → c x z ≤ 0
def lex {α : Type} (c : α → α → Int) : List α → List α → Int
  | [], [] => 0
  | [], _ :: _ => -1
  | _ :: _, [] => 1
  | a :: l, b :: m => if c a b = 0 then lex c l m else c a b
theorem Ord3.zero_trans {α : Type} {c : α → α → Int} (h : Ord3 c) {x y z : α} (h1 : c x y = 0) (h2 : c y z = 0) : c x z = 0 := by
  have a := h.trans x y z (by omega) (by omega)
  have b := h.trans z y x (by rw [h.anti]; omega) (by rw [h.anti]; omega)
  rw [h.anti] at b
  omega
theorem Ord3.lt_of {α : Type} {c : α → α → Int} (h : Ord3 c) {x y z : α} (h1 : c x y ≤ 0) (h2 : c y z ≤ 0) (h3 : c x z = 0) : c x y = 0 ∧ c y z = 0 := by
  have a := h.trans y z x h2 (by rw [h.anti]; omega)
  have b := h.trans z x y (by rw [h.anti]; omega) h1
  rw [h.anti] at a b
  omega
theorem lex_ord {α : Type} {c : α → α → Int} (h : Ord3 c) : Ord3 (lex c) := by
  refine ⟨?_, ?_, ?_⟩
  · intro x
    induction x with
    | nil => intro y; cases y <;> simp [lex]
    | cons a l ih =>
      intro y
      cases y with
      | nil => simp [lex]
      | cons b m =>
        unfold lex
        split
        · exact ih m
        · exact h.tri a b
  · intro x
    induction x with
    | nil => intro y; cases y <;> simp [lex]
    | cons a l ih =>
      intro y
      cases y with
      | nil => simp [lex]
      | cons b m =>
        unfold lex
        have := h.anti a b
        by_cases e : c a b = 0
        · rw [if_pos e, if_pos (by omega)]; exact ih m
        · rw [if_neg e, if_neg (by omega)]; exact this
  · intro x
    induction x with
    | nil => intro y z _ _; cases z <;> simp [lex]
    | cons a l ih =>
      intro y z h1 h2
      cases y with
      | nil => simp [lex] at h1
      | cons b m =>
        cases z with
        | nil => simp [lex] at h2
        | cons d r =>
          unfold lex at h1 h2 ⊢
          by_cases e1 : c a b = 0
          · rw [if_pos e1] at h1
            by_cases e2 : c b d = 0
            · rw [if_pos e2] at h2
              rw [if_pos (h.zero_trans e1 e2)]
              exact ih m r h1 h2
            · rw [if_neg e2] at h2
              have ht := h.trans a b d (by omega) h2
              have hne : c a d ≠ 0 := fun e3 => e2 (h.lt_of (by omega) h2 e3).2
              rw [if_neg hne]; exact ht
          · rw [if_neg e1] at h1
            by_cases e2 : c b d = 0
            · rw [if_pos e2] at h2
              have ht := h.trans a b d h1 (by omega)
              have hne : c a d ≠ 0 := fun e3 => e1 (h.lt_of h1 (by omega) e3).1
              rw [if_neg hne]; exact ht
            · rw [if_neg e2] at h2
              have ht := h.trans a b d h1 h2
              have hne : c a d ≠ 0 := fun e3 => e1 (h.lt_of h1 h2 e3).1
              rw [if_neg hne]; exact ht
theorem lex_zero {α β : Type} {c : α → α → Int} {f : α → β} (h : ∀ x y, c x y = 0 ↔ f x = f y) : ∀ x y, lex c x y = 0 ↔ x.map f = y.map f := by
  intro x
  induction x with
  | nil => intro y; cases y <;> simp [lex]
  | cons a l ih =>
    intro y
    cases y with
    | nil => simp [lex]
    | cons b m =>
      unfold lex
      simp only [List.map_cons, List.cons.injEq, ← h, ← ih]
      by_cases e : c a b = 0
      · simp [e]
      · simp [e]
/-- what begins with another one is not ahead of it -/
theorem lex_prefix {α β : Type} {c : α → α → Int} {f : α → β} (h : ∀ x y, c x y = 0 ↔ f x = f y) : ∀ x y : List α, y.map f <+: x.map f → 0 ≤ lex c x y := by
  intro x
  induction x with
  | nil =>
    intro y hp
    cases y with
    | nil => simp [lex]
    | cons b m => have := hp.length_le; simp at this
  | cons a l ih =>
    intro y hp
    cases y with
    | nil => simp [lex]
    | cons b m =>
      simp only [List.map_cons, List.cons_prefix_cons] at hp
      unfold lex
      rw [if_pos ((h a b).2 hp.1.symm)]
      exact ih m hp.2

def cmpByte (a b : UInt8) : Int := if a < b then -1 else if b < a then 1 else 0
theorem cmpByte_ord : Ord3 cmpByte := by
  refine ⟨fun x y => ?_, fun x y => ?_, fun x y z h1 h2 => ?_⟩
  · unfold cmpByte; split <;> (try split) <;> simp
  · unfold cmpByte
    simp only [UInt8.lt_iff_toNat_lt]
    split <;> split <;> (try split) <;> (try omega) <;> simp
  · unfold cmpByte at *
    simp only [UInt8.lt_iff_toNat_lt] at *
    split at h1 <;> (try split at h1) <;> split at h2 <;> (try split at h2) <;> (try omega) <;> (split <;> (try split) <;> omega)
theorem cmpByte_zero (x y : UInt8) : cmpByte x y = 0 ↔ id x = id y := by
  unfold cmpByte
  simp only [UInt8.lt_iff_toNat_lt, id]
  constructor
  · intro h
    split at h
    · cases h
    · split at h
      · cases h
      · exact UInt8.toNat_inj.1 (by omega)
  · rintro rfl; simp
theorem compareBytes_lex : ∀ a b : List UInt8, Go.Lib.compareBytes a b = lex cmpByte a b := by
  intro a
  induction a with
  | nil => intro b; cases b <;> rfl
  | cons x l ih =>
    intro b
    cases b with
    | nil => rfl
    | cons y m =>
      rw [Go.Lib.compareBytes, lex, ih m]
      unfold cmpByte
      by_cases h1 : x < y
      · simp [h1]
      · by_cases h2 : y < x
        · simp [h1, h2]
        · simp [h1, h2]
theorem smallS_inj (a b : ByteArray) : smallL a.data.toList = smallL b.data.toList ↔ smallS a = smallS b := by
  unfold smallS
  constructor
  · intro h; rw [h]
  · intro h
    injection h with h
    have := congrArg Array.toList h
    simpa using this
theorem cmpB_ord : Ord3 cmpB := by
  have h := lex_ord cmpByte_ord
  refine ⟨fun x y => ?_, fun x y => ?_, fun x y z => ?_⟩
  · unfold cmpB; rw [compareBytes_lex]; exact h.tri _ _
  · unfold cmpB; rw [compareBytes_lex, compareBytes_lex]; exact h.anti _ _
  · unfold cmpB; rw [compareBytes_lex, compareBytes_lex, compareBytes_lex]; exact h.trans _ _ _
theorem cmpB_zero (x y : ByteArray) : cmpB x y = 0 ↔ smallS x = smallS y := by
  unfold cmpB
  rw [compareBytes_lex, lex_zero cmpByte_zero, ← smallS_inj]
  simp
theorem cmpL_lex : ∀ a b : List ByteArray, cmpL a b = lex cmpB a b := by
  intro a
  induction a with
  | nil => intro b; cases b <;> rfl
  | cons x l ih =>
    intro b
    cases b with
    | nil => rfl
    | cons y m => rw [cmpL, lex, ih m]
theorem cmpL_ord : Ord3 cmpL := by
  have h := lex_ord cmpB_ord
  refine ⟨fun x y => ?_, fun x y => ?_, fun x y z => ?_⟩
  · rw [cmpL_lex]; exact h.tri _ _
  · rw [cmpL_lex, cmpL_lex]; exact h.anti _ _
  · rw [cmpL_lex, cmpL_lex, cmpL_lex]; exact h.trans _ _ _
theorem cmpL_zero (x y : List ByteArray) : cmpL x y = 0 ↔ x.map smallS = y.map smallS := by
  rw [cmpL_lex]; exact lex_zero cmpB_zero x y

/-- which one is ahead, as Compare has it -/
def cmpN (a b : List ByteArray) : Int := cmpL a.reverse b.reverse
theorem cmpN_zero (a b : List ByteArray) : cmpN a b = 0 ↔ a.map smallS = b.map smallS := by
  unfold cmpN
  rw [cmpL_zero, List.map_reverse, List.map_reverse]
  exact List.reverse_inj
theorem sameL_iff (a b : List ByteArray) : sameL a b = decide (cmpN a b = 0) := by
  unfold sameL
  rw [decide_eq_decide]
  exact (cmpN_zero a b).symm
theorem underL_iff (a b : List ByteArray) : underL a b = true ↔ b.map smallS <:+ a.map smallS := by
  unfold underL sameL
  simp only [Bool.and_eq_true, decide_eq_true_eq]
  constructor
  · rintro ⟨_, h⟩
    rw [← h, List.map_drop]
    exact List.drop_suffix _ _
  · intro h
    have hl := h.length_le
    simp only [List.length_map] at hl
    refine ⟨hl, ?_⟩
    have := List.suffix_iff_eq_drop.1 h
    rw [List.map_drop, this]
    simp
theorem under_ge {a b : List ByteArray} (h : underL a b = true) : 0 ≤ cmpN a b := by
  unfold cmpN
  rw [cmpL_lex]
  refine lex_prefix cmpB_zero _ _ ?_
  rw [List.map_reverse, List.map_reverse, List.reverse_prefix]
  exact (underL_iff a b).1 h
theorem under_both (a b : List ByteArray) : (underL a b && underL b a) = decide (cmpN a b = 0) := by
  rw [Bool.eq_iff_iff, Bool.and_eq_true, underL_iff, underL_iff, decide_eq_true_iff, cmpN_zero]
  constructor
  · rintro ⟨h1, h2⟩
    exact (h2.eq_of_length (Nat.le_antisymm h2.length_le h1.length_le))
  · intro h
    rw [h]
    exact ⟨List.suffix_refl _, List.suffix_refl _⟩
theorem under_trans {a b c : List ByteArray} (h1 : underL a b = true) (h2 : underL b c = true) : underL a c = true := by
  rw [underL_iff] at *
  exact h2.trans h1
theorem under_self (a : List ByteArray) : underL a a = true := (underL_iff a a).2 (List.suffix_refl _)
theorem under_nil (a : List ByteArray) : underL a [] = true := (underL_iff a []).2 (List.nil_suffix)
theorem lowB_lowB (b : UInt8) : lowB (lowB b) = lowB b := by
  unfold lowB
  have := b.toNat_lt
  by_cases h : 65 ≤ b.toNat ∧ b.toNat ≤ 90
  · rw [if_pos h, UInt8.toNat_ofNat', Nat.mod_eq_of_lt (by omega), if_neg (by omega)]
  · rw [if_neg h, if_neg h]
theorem smallS_smallS (s : ByteArray) : smallS (smallS s) = smallS s := by
  unfold smallS smallL
  simp [lowB_lowB]
theorem fold_fold (a : List ByteArray) : (a.map smallS).map smallS = a.map smallS := by
  rw [List.map_map]
  exact List.map_congr_left fun s _ => smallS_smallS s
end Go.Proofs.YtemgbfppdopfbaaDoor
