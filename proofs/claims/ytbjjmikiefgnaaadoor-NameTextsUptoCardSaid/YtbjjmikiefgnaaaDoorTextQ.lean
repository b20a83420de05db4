/- The document's name of a text, plain: each byte by the only text of it; it is the name that is read just if the text is that name's. No function of the program. -/
import Derived.Test.YtbjjmikiefgnaaaDoorTextP
namespace Go.Proofs.YtbjjmikiefgnaaaDoor
set_option linter.unusedVariables false
set_option linter.unusedSimpArgs false

/-- no byte's text begins another one's -/
theorem escB_one {b c : UInt8} {r q : List UInt8} (h : escB b ++ r = escB c ++ q) : b = c ∧ r = q := by
  have hb := b.toNat_lt
  have hc := c.toNat_lt
  have heq : b.toNat = c.toNat → b = c := fun e => UInt8.toNat_inj.1 e
  have n1 : ∀ x : Nat, x < 256 → (UInt8.ofNat x).toNat = x := fun x hx => by rw [UInt8.toNat_ofNat']; omega
  unfold escB at h
  by_cases b1 : b.toNat = 46 ∨ b.toNat = 92
  · rw [if_pos b1] at h
    by_cases c1 : c.toNat = 46 ∨ c.toNat = 92
    · rw [if_pos c1] at h
      simp only [List.cons_append, List.nil_append, List.cons.injEq, true_and] at h
      exact h
    · rw [if_neg c1] at h
      by_cases c2 : c.toNat < 33 ∨ 126 < c.toNat
      · rw [if_pos c2] at h
        simp only [List.cons_append, List.nil_append, List.cons.injEq, true_and] at h
        have := congrArg UInt8.toNat h.1
        rw [n1 _ (by omega)] at this
        omega
      · rw [if_neg c2] at h
        simp only [List.cons_append, List.nil_append, List.cons.injEq] at h
        have := congrArg UInt8.toNat h.1
        have e : (92 : UInt8).toNat = 92 := rfl
        omega
  · rw [if_neg b1] at h
    by_cases b2 : b.toNat < 33 ∨ 126 < b.toNat
    · rw [if_pos b2] at h
      by_cases c1 : c.toNat = 46 ∨ c.toNat = 92
      · rw [if_pos c1] at h
        simp only [List.cons_append, List.nil_append, List.cons.injEq, true_and] at h
        have := congrArg UInt8.toNat h.1
        rw [n1 _ (by omega)] at this
        omega
      · rw [if_neg c1] at h
        by_cases c2 : c.toNat < 33 ∨ 126 < c.toNat
        · rw [if_pos c2] at h
          simp only [List.cons_append, List.nil_append, List.cons.injEq, true_and] at h
          obtain ⟨h1, h2, h3, h4⟩ := h
          have e1 := congrArg UInt8.toNat h1
          have e2 := congrArg UInt8.toNat h2
          have e3 := congrArg UInt8.toNat h3
          rw [n1 _ (by omega), n1 _ (by omega)] at e1 e2 e3
          exact ⟨heq (by omega), h4⟩
        · rw [if_neg c2] at h
          simp only [List.cons_append, List.nil_append, List.cons.injEq] at h
          have := congrArg UInt8.toNat h.1
          have e : (92 : UInt8).toNat = 92 := rfl
          omega
    · rw [if_neg b2] at h
      by_cases c1 : c.toNat = 46 ∨ c.toNat = 92
      · rw [if_pos c1] at h
        simp only [List.cons_append, List.nil_append, List.cons.injEq] at h
        have := congrArg UInt8.toNat h.1
        have e : (92 : UInt8).toNat = 92 := rfl
        omega
      · rw [if_neg c1] at h
        by_cases c2 : c.toNat < 33 ∨ 126 < c.toNat
        · rw [if_pos c2] at h
          simp only [List.cons_append, List.nil_append, List.cons.injEq] at h
          have := congrArg UInt8.toNat h.1
          have e : (92 : UInt8).toNat = 92 := rfl
          omega
        · rw [if_neg c2] at h
          simp only [List.cons_append, List.nil_append, List.cons.injEq] at h
          exact h

/-- what the document's way makes of the bytes from a place on: r is its outcome -/
inductive OfT : List UInt8 → List UInt8 → List (List UInt8) → Option (List (List UInt8) × List UInt8) → Prop
  | nil (lab ns) : OfT [] lab ns (some (ns, lab))
  | dot (s lab ns r) (x : UInt8) (hx : x.toNat = 46) : OfT s [] (ns ++ [lab]) r → OfT (x :: s) lab ns r
  | byte (b : UInt8) (s lab ns r) : OfT s (lab ++ [b]) ns r → OfT (escB b ++ s) lab ns r
  | none (s lab ns) (h : ∀ b q, s ≠ escB b ++ q) (h2 : ∀ x q, s = x :: q → x.toNat ≠ 46) (h3 : s ≠ []) : OfT s lab ns none
theorem escB_dot (b : UInt8) (q : List UInt8) {x : UInt8} (hx : x.toNat = 46) {s : List UInt8} : x :: s ≠ escB b ++ q := by
  intro h
  unfold escB at h
  have e : (92 : UInt8).toNat = 92 := rfl
  split at h
  · simp only [List.cons_append, List.cons.injEq] at h
    have := congrArg UInt8.toNat h.1; omega
  · rename_i h1
    split at h
    · simp only [List.cons_append, List.cons.injEq] at h
      have := congrArg UInt8.toNat h.1; omega
    · simp only [List.cons_append, List.cons.injEq] at h
      have := congrArg UInt8.toNat h.1; omega
/-- the text that stands for labels and the beginning of one -/
theorem ofT_some {s lab : List UInt8} {ns : List (List UInt8)} {r : Option (List (List UInt8) × List UInt8)} (h : OfT s lab ns r) : ∀ n l, r = some (n, l) → n.flatMap labelT ++ l.flatMap escB = ns.flatMap labelT ++ lab.flatMap escB ++ s := by
  induction h with
  | nil lab ns => rintro n l ⟨⟩; simp
  | dot s lab ns r x hx _ ih =>
    intro n l e
    rw [ih n l e]
    have : x = 46 := UInt8.toNat_inj.1 hx
    subst this
    simp [labelT]
  | byte b s lab ns r _ ih =>
    intro n l e
    rw [ih n l e]
    simp
  | none s lab ns _ _ _ => rintro n l ⟨⟩
/-- what stands for labels is read so -/
theorem ofT_labels (n : List (List UInt8)) : ∀ ns, OfT (n.flatMap labelT) [] ns (some (ns ++ n, [])) := by
  have hl : ∀ (l s lab : List UInt8) (ns) (r), OfT s [] (ns ++ [lab ++ l]) r → OfT (labelT l ++ s) lab ns r := by
    intro l
    induction l with
    | nil =>
      intro s lab ns r h
      unfold labelT
      exact OfT.dot s lab ns r 46 rfl (by simpa using h)
    | cons b l ih =>
      intro s lab ns r h
      have := OfT.byte b (labelT l ++ s) lab ns r (ih s (lab ++ [b]) ns r (by simpa using h))
      unfold labelT at this ⊢
      simpa [List.flatMap_cons] using this
  induction n with
  | nil => intro ns; simpa using OfT.nil [] ns
  | cons l n ih =>
    intro ns
    rw [List.flatMap_cons]
    have := hl l (n.flatMap labelT) [] ns _ (by simpa using ih (ns ++ [l]))
    simpa using this
/-- there is one outcome -/
theorem ofT_one {s lab : List UInt8} {ns : List (List UInt8)} {r q : Option (List (List UInt8) × List UInt8)} (h : OfT s lab ns r) (k : OfT s lab ns q) : r = q := by
  induction h generalizing q with
  | nil lab ns =>
    generalize hs : ([] : List UInt8) = s at k
    cases k with
    | nil => rfl
    | dot s lab ns r x hx _ => cases hs
    | byte b s lab ns r _ =>
      exfalso
      have := congrArg List.length hs
      cases he : escB b with
      | nil => exact escB_ne b he
      | cons a t => rw [he] at this; simp at this
    | none _ _ _ h h2 h3 => exact absurd hs.symm h3
  | dot s lab ns r x hx _ ih =>
    generalize hs : x :: s = s' at k
    cases k with
    | nil => cases hs
    | dot s2 lab ns q2 x2 hx2 k2 => cases hs; exact ih k2
    | byte b s2 lab ns q2 k2 => exact absurd hs (escB_dot b s2 hx)
    | none _ _ _ h h2 h3 => exact absurd hx (h2 x s hs.symm)
  | byte b s lab ns r _ ih =>
    generalize hs : escB b ++ s = s' at k
    cases k with
    | nil =>
      exfalso
      have := congrArg List.length hs
      cases he : escB b with
      | nil => exact escB_ne b he
      | cons a t => rw [he] at this; simp at this
    | dot s2 lab ns q2 x2 hx2 k2 => exact absurd hs.symm (escB_dot b s hx2)
    | byte c s2 lab ns q2 k2 =>
      obtain ⟨rfl, rfl⟩ := escB_one hs
      exact ih k2
    | none _ _ _ h h2 h3 => exact absurd hs.symm (h b s)
  | none s lab ns h h2 h3 =>
    cases k with
    | nil => exact absurd rfl h3
    | dot s2 lab ns q2 x2 hx2 k2 => exact absurd hx2 (h2 x2 s2 rfl)
    | byte c s2 lab ns q2 k2 => exact absurd rfl (h c s2)
    | none => rfl
end Go.Proofs.YtbjjmikiefgnaaaDoor
