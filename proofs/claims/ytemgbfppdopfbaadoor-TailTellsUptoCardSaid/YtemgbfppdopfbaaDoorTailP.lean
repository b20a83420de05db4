/- The longest end of a name, plain: the key of labels, values put for names, the value of the longest end. No function of the program. -/
import Derived.Test.YtemgbfppdopfbaaDoorNameC
namespace Go.Proofs.YtemgbfppdopfbaaDoor
set_option linter.unusedVariables false
set_option linter.unusedSimpArgs false

/-- labels, each behind its length -/
def keyB (n : List (List UInt8)) : List UInt8 := n.flatMap fun l => UInt8.ofNat l.length :: l
theorem keyB_cons (l : List UInt8) (n : List (List UInt8)) : keyB (l :: n) = UInt8.ofNat l.length :: (l ++ keyB n) := by simp [keyB]
theorem keyB_inj : ∀ (a b : List (List UInt8)), (∀ l ∈ a, l.length ≤ 255) → (∀ l ∈ b, l.length ≤ 255) → keyB a = keyB b → a = b
  | [], [], _, _, _ => rfl
  | [], l :: b, _, _, h => by rw [keyB_cons] at h; simp [keyB] at h
  | l :: a, [], _, _, h => by rw [keyB_cons] at h; simp [keyB] at h
  | l :: a, m :: b, ha, hb, h => by
    rw [keyB_cons, keyB_cons] at h
    injection h with h1 h2
    have l1 := ha l (by simp)
    have l2 := hb m (by simp)
    have e : l.length = m.length := by
      have := congrArg UInt8.toNat h1
      rw [UInt8.toNat_ofNat', UInt8.toNat_ofNat'] at this
      omega
    have e2 : l = m := by
      have := congrArg (List.take l.length) h2
      rwa [List.take_left, e, List.take_left] at this
    subst e2
    rw [List.append_cancel_left_eq] at h2
    rw [keyB_inj a b (fun x hx => ha x (by simp [hx])) (fun x hx => hb x (by simp [hx])) h2]
/-- the key of a name -/
def keyS (n : List ByteArray) : List UInt8 := keyB (n.map fun s => (smallS s).data.toList)
def short (n : List ByteArray) : Bool := n.all fun s => decide (s.size ≤ 63)
theorem keyS_inj {a b : List ByteArray} (ha : short a = true) (hb : short b = true) : keyS a = keyS b ↔ sameL a b = true := by
  unfold sameL
  rw [decide_eq_true_iff]
  have hl : ∀ n : List ByteArray, short n = true → ∀ l ∈ (n.map fun s => (smallS s).data.toList), l.length ≤ 255 := by
    intro n hn l hl
    obtain ⟨s, hs, rfl⟩ := List.mem_map.1 hl
    have h1 := of_decide_eq_true (List.all_eq_true.1 hn s hs)
    have h2 := smallS_size s
    have h3 : (smallS s).data.toList.length = (smallS s).size := by rw [Array.length_toList]; rfl
    omega
  constructor
  · intro h
    have h2 := keyB_inj _ _ (hl a ha) (hl b hb) h
    have h3 := congrArg (List.map fun l : List UInt8 => (⟨l.toArray⟩ : ByteArray)) h2
    rw [List.map_map, List.map_map] at h3
    have e : (fun l : List UInt8 => (⟨l.toArray⟩ : ByteArray)) ∘ (fun s : ByteArray => (smallS s).data.toList) = smallS := by
      funext s
      show (⟨(smallS s).data.toList.toArray⟩ : ByteArray) = smallS s
      cases smallS s
      rfl
    rwa [e] at h3
  · intro h
    unfold keyS
    have e : (fun s : ByteArray => (smallS s).data.toList) = (fun s : ByteArray => s.data.toList) ∘ smallS := rfl
    rw [e, ← List.map_map, ← List.map_map, h]
theorem sameL_short {a b : List ByteArray} (h : sameL a b = true) : short a = short b := by
  unfold sameL at h
  have h := of_decide_eq_true h
  have e : ∀ n : List ByteArray, short n = (n.map smallS).all fun s => decide (s.size ≤ 63) := by
    intro n
    unfold short
    rw [List.all_map]
    congr 1
    funext s
    simp [smallS_size]
  rw [e a, e b, h]
theorem sameL_len {a b : List ByteArray} (h : sameL a b = true) : a.length = b.length := by
  have := congrArg List.length (of_decide_eq_true h)
  simpa using this
theorem sameL_trans {a b c : List ByteArray} (h : sameL a b = true) (k : sameL b c = true) : sameL a c = true := decide_eq_true ((of_decide_eq_true h).trans (of_decide_eq_true k))
theorem sameL_symm {a b : List ByteArray} (h : sameL a b = true) : sameL b a = true := decide_eq_true (of_decide_eq_true h).symm

/-- names with values, as they were put -/
abbrev EndT := List ByteArray × Int × Unit
/-- the last one's place that is for a name -/
def lastFor (es : List EndT) (n : List ByteArray) : Option Nat := (List.range es.length).reverse.find? fun i => match es[i]? with | some e => sameL n e.1 | none => false
theorem lastFor_some {es : List EndT} {n : List ByteArray} {i : Nat} (h : lastFor es n = some i) : ∃ hi : i < es.length, sameL n es[i].1 = true ∧ ∀ j, ∀ hj : j < es.length, sameL n es[j].1 = true → j ≤ i := by
  unfold lastFor at h
  obtain ⟨h1, l1, l2, h2, h3⟩ := List.find?_eq_some_iff_append.1 h
  have hi : i < es.length := by
    have : i ∈ (List.range es.length).reverse := by rw [h2]; simp
    simpa using this
  refine ⟨hi, ?_, fun j hj hs => ?_⟩
  · rw [List.getElem?_eq_getElem hi] at h1; exact h1
  · apply Decidable.of_not_not
    intro hlt
    have hmem : j ∈ (List.range es.length).reverse := by simpa using hj
    have hsort : (List.range es.length).reverse.Pairwise (· > ·) := by
      rw [List.pairwise_reverse]
      exact List.pairwise_lt_range
    rw [h2] at hmem hsort
    rcases List.mem_append.1 hmem with hm | hm
    · have := h3 j hm
      rw [List.getElem?_eq_getElem hj] at this
      simp [hs] at this
    · rw [List.pairwise_append] at hsort
      rcases List.mem_cons.1 hm with rfl | hm
      · exact hlt (Nat.le_refl _)
      · have := (List.pairwise_cons.1 hsort.2.1).1 j hm
        omega
theorem lastFor_none {es : List EndT} {n : List ByteArray} (h : lastFor es n = none) : ∀ e ∈ es, sameL n e.1 = false := by
  intro e he
  obtain ⟨i, hi, rfl⟩ := List.getElem_of_mem he
  unfold lastFor at h
  have := List.find?_eq_none.1 h i (by simpa using hi)
  rw [List.getElem?_eq_getElem hi] at this
  simpa using this
/-- the value of the longest end, and how many labels it has -/
def getT (es : List EndT) : List ByteArray → Option (Nat × Nat)
  | [] => (lastFor es []).map fun i => (i, 0)
  | a :: n => match lastFor es (a :: n) with
    | some i => some (i, (a :: n).length)
    | none => getT es n
theorem under_cons (a : ByteArray) (n b : List ByteArray) : underL (a :: n) b = true ↔ sameL (a :: n) b = true ∨ underL n b = true := by
  unfold underL
  rw [Bool.and_eq_true, Bool.and_eq_true, decide_eq_true_iff, decide_eq_true_iff]
  constructor
  · rintro ⟨h1, h2⟩
    by_cases e : b.length = (a :: n).length
    · left
      rwa [e, Nat.sub_self, List.drop_zero] at h2
    · right
      rw [List.length_cons] at h1 h2 e
      refine ⟨by omega, ?_⟩
      rwa [show n.length + 1 - b.length = (n.length - b.length) + 1 by omega, List.drop_succ_cons] at h2
  · rintro (h | ⟨h1, h2⟩)
    · have := sameL_len h
      refine ⟨by omega, ?_⟩
      rw [this, Nat.sub_self, List.drop_zero]
      exact h
    · rw [List.length_cons]
      refine ⟨by omega, ?_⟩
      rwa [show n.length + 1 - b.length = (n.length - b.length) + 1 by omega, List.drop_succ_cons]
theorem tunder_nil (b : List ByteArray) : underL [] b = true ↔ sameL [] b = true := by
  unfold underL
  rw [Bool.and_eq_true, decide_eq_true_iff]
  constructor
  · rintro ⟨_, h⟩; simpa using h
  · intro h
    exact ⟨by have := sameL_len h; simp at this; simp [← this], by simpa using h⟩
theorem under_len {n b : List ByteArray} (h : underL n b = true) : b.length ≤ n.length := by
  unfold underL at h
  rw [Bool.and_eq_true, decide_eq_true_iff] at h
  exact h.1
/-- the best of so many -/
def BestP (es : List EndT) (n : List ByteArray) (k : Nat) (b : Option Nat) : Prop :=
  match b with
  | none => ∀ j, ∀ hj : j < es.length, j < k → underL n es[j].1 = false
  | some i => ∃ hi : i < es.length, i < k ∧ underL n es[i].1 = true ∧ ∀ j, ∀ hj : j < es.length, j < k → underL n es[j].1 = true → es[j].1.length < es[i].1.length ∨ (es[j].1.length = es[i].1.length ∧ j ≤ i)
theorem best_get {es : List EndT} : ∀ {n : List ByteArray} {b : Option Nat}, BestP es n es.length b → getT es n = b.map fun i => (i, (es.getD i ([], 0, ())).1.length)
  | [], b, h => by
    rw [getT]
    cases b with
    | none =>
      cases hl : lastFor es [] with
      | none => rfl
      | some i =>
        obtain ⟨hi, h1, _⟩ := lastFor_some hl
        have := h i hi hi
        rw [(tunder_nil _).2 h1] at this
        cases this
    | some i =>
      obtain ⟨hi, _, h2, h3⟩ := h
      have h2' := (tunder_nil _).1 h2
      have hz := sameL_len h2'
      cases hl : lastFor es [] with
      | none =>
        have := lastFor_none hl _ (List.getElem_mem hi)
        rw [h2'] at this
        cases this
      | some j =>
        obtain ⟨hj, g1, g2⟩ := lastFor_some hl
        have a1 := g2 i hi h2'
        have a2 := h3 j hj hj ((tunder_nil _).2 g1)
        have gz := sameL_len g1
        have : j = i := by
          rcases a2 with a2 | a2
          · simp at gz hz; omega
          · omega
        subst this
        simp only [Option.map_some, Option.some.injEq, Prod.mk.injEq, true_and]
        rw [List.getD_eq_getElem?_getD, List.getElem?_eq_getElem hi]
        simpa using hz
  | a :: n, b, h => by
    rw [getT]
    cases hl : lastFor es (a :: n) with
    | some j =>
      obtain ⟨hj, g1, g2⟩ := lastFor_some hl
      cases b with
      | none =>
        have := h j hj hj
        rw [(under_cons _ _ _).2 (.inl g1)] at this
        cases this
      | some i =>
        obtain ⟨hi, _, h2, h3⟩ := h
        have gz := sameL_len g1
        have a2 := h3 j hj hj ((under_cons _ _ _).2 (.inl g1))
        have hu := under_len h2
        have hs : sameL (a :: n) es[i].1 = true := by
          rcases (under_cons _ _ _).1 h2 with h2 | h2
          · exact h2
          · have := under_len h2
            rw [List.length_cons] at gz
            omega
        have a1 := g2 i hi hs
        have hz := sameL_len hs
        have : j = i := by omega
        subst this
        simp only [Option.map_some, Option.some.injEq, Prod.mk.injEq, true_and]
        rw [List.getD_eq_getElem?_getD, List.getElem?_eq_getElem hi]
        exact hz
    | none =>
      have hno := lastFor_none hl
      refine best_get ?_
      have hiff : ∀ j, ∀ hj : j < es.length, underL (a :: n) es[j].1 = underL n es[j].1 := by
        intro j hj
        have := hno _ (List.getElem_mem hj)
        cases hu : underL n es[j].1 with
        | true => exact (under_cons _ _ _).2 (.inr hu)
        | false =>
          cases hc : underL (a :: n) es[j].1 with
          | false => rfl
          | true =>
            rcases (under_cons _ _ _).1 hc with h1 | h1
            · rw [this] at h1; cases h1
            · rw [hu] at h1; cases h1
      cases b with
      | none =>
        intro j hj hk
        rw [← hiff j hj]
        exact h j hj hk
      | some i =>
        obtain ⟨hi, h1, h2, h3⟩ := h
        refine ⟨hi, h1, by rw [← hiff i hi]; exact h2, fun j hj hk hu => h3 j hj hk (by rw [hiff j hj]; exact hu)⟩
theorem best_start (es : List EndT) (n : List ByteArray) : BestP es n 0 none := fun j hj h => by omega
theorem best_no {es : List EndT} {n : List ByteArray} {k : Nat} {b : Option Nat} (h : BestP es n k b) (hk : k < es.length) (hu : underL n es[k].1 = false) : BestP es n (k + 1) b := by
  cases b with
  | none =>
    intro j hj hlt
    by_cases e : j = k
    · subst e; exact hu
    · exact h j hj (by omega)
  | some i =>
    obtain ⟨hi, h1, h2, h3⟩ := h
    refine ⟨hi, by omega, h2, fun j hj hlt hj2 => ?_⟩
    by_cases e : j = k
    · subst e; rw [hu] at hj2; cases hj2
    · exact h3 j hj (by omega) hj2
theorem best_yes {es : List EndT} {n : List ByteArray} {k : Nat} {b : Option Nat} (h : BestP es n k b) (hk : k < es.length) (hu : underL n es[k].1 = true) (hb : ∀ i, b = some i → (es.getD i ([], 0, ())).1.length ≤ es[k].1.length) : BestP es n (k + 1) (some k) := by
  refine ⟨hk, by omega, hu, fun j hj hlt hj2 => ?_⟩
  by_cases e : j = k
  · subst e; exact .inr ⟨rfl, Nat.le_refl _⟩
  · cases b with
    | none =>
      have := h j hj (by omega)
      rw [hj2] at this
      cases this
    | some i =>
      obtain ⟨hi, h1, h2, h3⟩ := h
      have h4 := hb i rfl
      rw [List.getD_eq_getElem?_getD, List.getElem?_eq_getElem hi] at h4
      simp only [Option.getD_some] at h4
      rcases h3 j hj (by omega) hj2 with h5 | h5
      · exact .inl (by omega)
      · by_cases e2 : es[j].1.length = es[k].1.length
        · exact .inr ⟨e2, by omega⟩
        · exact .inl (by omega)
theorem best_keep {es : List EndT} {n : List ByteArray} {k i : Nat} (h : BestP es n k (some i)) (hk : k < es.length) (hl : es[k].1.length < (es.getD i ([], 0, ())).1.length) : BestP es n (k + 1) (some i) := by
  obtain ⟨hi, h1, h2, h3⟩ := h
  rw [List.getD_eq_getElem?_getD, List.getElem?_eq_getElem hi] at hl
  simp only [Option.getD_some] at hl
  refine ⟨hi, by omega, h2, fun j hj hlt hj2 => ?_⟩
  by_cases e : j = k
  · subst e; exact .inl hl
  · exact h3 j hj (by omega) hj2
end Go.Proofs.YtemgbfppdopfbaaDoor
