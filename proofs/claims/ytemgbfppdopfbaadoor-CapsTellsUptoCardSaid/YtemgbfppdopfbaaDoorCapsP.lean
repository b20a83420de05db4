/- Great and small letters, plain: which bytes are letters, the bits of a name, a name mixed by bits. No function of the program. -/
import Derived.Test.YtemgbfppdopfbaaDoorNameC
namespace Go.Proofs.YtemgbfppdopfbaaDoor
set_option linter.unusedVariables false
set_option linter.unusedSimpArgs false

def letterB (b : UInt8) : Bool := decide (97 ≤ (b ||| 32).toNat) && decide ((b ||| 32).toNat ≤ 122)
def greatB (b : UInt8) : Bool := decide (b.toNat < 97)
def mix1 (b : UInt8) (g : Bool) : UInt8 := if g then (b ||| 32) - 32 else b ||| 32
/-- what is so of each byte -/
theorem byte_all {P : UInt8 → Prop} (h : ∀ n, n < 256 → P (UInt8.ofNat n)) (b : UInt8) : P b := by
  have := h b.toNat b.toNat_lt
  rwa [UInt8.ofNat_toNat] at this
theorem mix_letter (b : UInt8) (h : letterB b = true) (g : Bool) : letterB (mix1 b g) = true ∧ greatB (mix1 b g) = g ∧ mix1 b (greatB b) = b ∧ mix1 (mix1 b g) = mix1 b := by
  have hg : ∀ b : UInt8, letterB b = true → ∀ g, letterB (mix1 b g) = true ∧ greatB (mix1 b g) = g ∧ mix1 b (greatB b) = b := by
    intro b
    refine byte_all (P := fun b => letterB b = true → ∀ g, letterB (mix1 b g) = true ∧ greatB (mix1 b g) = g ∧ mix1 b (greatB b) = b) ?_ b
    decide +kernel
  have hm : ∀ b : UInt8, letterB b = true → ∀ g g', mix1 (mix1 b g) g' = mix1 b g' := by
    intro b
    refine byte_all (P := fun b => letterB b = true → ∀ g g', mix1 (mix1 b g) g' = mix1 b g') ?_ b
    decide +kernel
  obtain ⟨h1, h2, h3⟩ := hg b h g
  exact ⟨h1, h2, h3, funext fun g' => hm b h g g'⟩

/-- a label's bits -/
def bitsB (l : List UInt8) : List Bool := (l.filter letterB).map greatB
def bitsN (n : List (List UInt8)) : List Bool := n.flatMap bitsB
/-- a label mixed -/
def mixB : List UInt8 → List Bool → List UInt8
  | [], _ => []
  | b :: l, bs => if letterB b then mix1 b (bs.headD false) :: mixB l bs.tail else b :: mixB l bs
def mixN : List (List UInt8) → List Bool → List (List UInt8)
  | [], _ => []
  | l :: n, bs => mixB l bs :: mixN n (bs.drop (bitsB l).length)
theorem bitsB_cons (b : UInt8) (l : List UInt8) : bitsB (b :: l) = if letterB b then greatB b :: bitsB l else bitsB l := by
  unfold bitsB
  rw [List.filter_cons]
  split <;> simp
theorem mixB_bits : ∀ (l : List UInt8) (bs : List Bool), (bitsB l).length ≤ bs.length → bitsB (mixB l bs) = bs.take (bitsB l).length
  | [], bs, _ => by simp [bitsB, mixB]
  | b :: l, bs, h => by
    rw [bitsB_cons] at h ⊢
    rw [mixB]
    by_cases hb : letterB b = true
    · rw [if_pos hb] at h ⊢
      rw [if_pos hb]
      cases bs with
      | nil => simp at h
      | cons g bs =>
        obtain ⟨h1, h2, _⟩ := mix_letter b hb g
        show bitsB (mix1 b g :: mixB l bs) = _
        rw [bitsB_cons, if_pos h1, h2, mixB_bits l bs (by simpa using h), List.length_cons, List.take_succ_cons]
    · rw [if_neg hb] at h ⊢
      rw [if_neg hb, bitsB_cons, if_neg hb]
      exact mixB_bits l bs h
theorem mixB_own : ∀ (l : List UInt8) (t : List Bool), mixB l (bitsB l ++ t) = l
  | [], t => rfl
  | b :: l, t => by
    rw [mixB, bitsB_cons]
    by_cases hb : letterB b = true
    · rw [if_pos hb, if_pos hb]
      simp only [List.cons_append, List.headD_cons, List.tail_cons]
      rw [(mix_letter b hb false).2.2.1, mixB_own l t]
    · rw [if_neg hb, if_neg hb, mixB_own l t]
theorem mixB_len : ∀ (l : List UInt8) (bs : List Bool), (mixB l bs).length = l.length
  | [], bs => rfl
  | b :: l, bs => by
    rw [mixB]
    split <;> simp [mixB_len]
theorem mixB_take : ∀ (l : List UInt8) (bs : List Bool), (bitsB l).length ≤ bs.length → mixB l bs = mixB l (bs.take (bitsB l).length)
  | [], bs, _ => rfl
  | b :: l, bs, h => by
    rw [bitsB_cons] at h ⊢
    rw [mixB, mixB]
    by_cases hb : letterB b = true
    · rw [if_pos hb] at h ⊢
      rw [if_pos hb, if_pos hb]
      cases bs with
      | nil => simp at h
      | cons g bs =>
        rw [List.length_cons, List.take_succ_cons]
        simp only [List.headD_cons, List.tail_cons]
        rw [mixB_take l bs (by simpa using h)]
    · rw [if_neg hb] at h ⊢
      rw [if_neg hb, if_neg hb, mixB_take l bs h]
theorem bitsN_cons (l : List UInt8) (n : List (List UInt8)) : bitsN (l :: n) = bitsB l ++ bitsN n := by simp [bitsN]
theorem mixN_bits : ∀ (n : List (List UInt8)) (bs : List Bool), (bitsN n).length ≤ bs.length → bitsN (mixN n bs) = bs.take (bitsN n).length
  | [], bs, _ => by simp [bitsN, mixN]
  | l :: n, bs, h => by
    rw [bitsN_cons, List.length_append] at h ⊢
    rw [mixN, bitsN_cons, mixB_bits l bs (by omega), mixN_bits n _ (by rw [List.length_drop]; omega), List.take_add]
theorem mixN_own : ∀ (n : List (List UInt8)) (t : List Bool), mixN n (bitsN n ++ t) = n
  | [], t => rfl
  | l :: n, t => by
    rw [mixN, bitsN_cons, List.append_assoc, mixB_own, List.drop_left, mixN_own]
theorem mixN_len : ∀ (n : List (List UInt8)) (bs : List Bool), (mixN n bs).length = n.length
  | [], bs => rfl
  | l :: n, bs => by rw [mixN, List.length_cons, mixN_len, List.length_cons]
theorem mixN_take : ∀ (n : List (List UInt8)) (bs : List Bool), (bitsN n).length ≤ bs.length → mixN n bs = mixN n (bs.take (bitsN n).length)
  | [], bs, _ => rfl
  | l :: n, bs, h => by
    rw [bitsN_cons, List.length_append] at h ⊢
    have e1 : mixB l bs = mixB l (bs.take ((bitsB l).length + (bitsN n).length)) := by
      rw [mixB_take l bs (by omega), mixB_take l (bs.take ((bitsB l).length + (bitsN n).length)) (by rw [List.length_take]; omega), List.take_take, Nat.min_eq_left (by omega)]
    have e2 : mixN n (bs.drop (bitsB l).length) = mixN n ((bs.take ((bitsB l).length + (bitsN n).length)).drop (bitsB l).length) := by
      rw [mixN_take n _ (by rw [List.length_drop]; omega), List.drop_take, Nat.add_sub_cancel_left]
    rw [mixN, mixN, e1, e2]
/-- unlike bits, unlike names -/
theorem mixN_inj {n : List (List UInt8)} {a b : List Bool} (ha : (bitsN n).length ≤ a.length) (hb : (bitsN n).length ≤ b.length) : mixN n a = mixN n b ↔ a.take (bitsN n).length = b.take (bitsN n).length := by
  constructor
  · intro h
    rw [← mixN_bits n a ha, ← mixN_bits n b hb, h]
  · intro h
    rw [mixN_take n a ha, mixN_take n b hb, h]
/-- one more letter mixed -/
theorem mixB_set : ∀ (l : List UInt8) (bs : List Bool) (k : Nat) (hk : k < l.length) (g : Bool), letterB l[k] = true → (bitsB l).length ≤ bs.length →
    (mixB l bs).set k (mix1 l[k] g) = mixB l (bs.set (bitsB (l.take k)).length g)
  | [], _, _, hk, _, _, _ => by simp at hk
  | b :: l, bs, 0, hk, g, hl, h => by
    have hb : letterB b = true := hl
    rw [bitsB_cons, if_pos hb] at h
    rw [mixB, if_pos hb, mixB, if_pos hb]
    cases bs with
    | nil => simp at h
    | cons x bs => simp [bitsB]
  | b :: l, bs, k + 1, hk, g, hl, h => by
    have hk' : k < l.length := by simpa using hk
    have hl' : letterB l[k] = true := hl
    rw [bitsB_cons] at h
    rw [List.take_succ_cons, bitsB_cons, mixB, mixB]
    by_cases hb : letterB b = true
    · rw [if_pos hb] at h ⊢
      rw [if_pos hb, if_pos hb]
      cases bs with
      | nil => simp at h
      | cons x bs =>
        have := mixB_set l bs k hk' g hl' (by simpa using h)
        simp only [List.headD_cons, List.tail_cons, List.set_cons_succ, List.getElem_cons_succ, List.length_cons]
        rw [this]
    · rw [if_neg hb] at h ⊢
      rw [if_neg hb, if_neg hb]
      have := mixB_set l bs k hk' g hl' h
      simp only [List.set_cons_succ, List.getElem_cons_succ]
      rw [this]
end Go.Proofs.YtemgbfppdopfbaaDoor
