/- Rules, plain: where a node's tree begins. No function of the program. -/
import Derived.Test.YtemgbfppdopfbaaDoorRuleP
namespace Go.Proofs.YtemgbfppdopfbaaDoor
open Tree
set_option linter.unusedVariables false
set_option linter.unusedSimpArgs false

theorem snoc_inj {α : Type} {a b : List α} {x y : α} (h : a ++ [x] = b ++ [y]) : a = b ∧ x = y := by
  have := List.append_inj' h rfl
  exact ⟨this.1, by simpa using this.2⟩
/-- some trees one behind the other end at a place -/
def AtT (r : List MT) (at_ : Nat) (p : List MT) (ts : List Tree) : Prop := r.take (at_ + 1) = p ++ flats ts
theorem AtT.step {r : List MT} {at_ : Nat} {p : List MT} {ts : List Tree} {t : Tree} (h : AtT r at_ p (ts ++ [t])) (hl : at_ < r.length) : r[at_] = t.top ∧ r.take at_ = p ++ flats (ts ++ t.kids) := by
  unfold AtT at h
  rw [List.take_succ_eq_append_getElem hl, flats_app, flats, flats, List.append_nil, flat_kids, ← List.append_assoc, ← List.append_assoc] at h
  obtain ⟨h1, h2⟩ := snoc_inj h
  exact ⟨h2, by rw [h1, flats_app, List.append_assoc]⟩
theorem flats_ne {t : Tree} {ts : List Tree} : flats (t :: ts) ≠ [] := by
  rw [flats]
  intro h
  exact flat_ne t (List.append_eq_nil_iff.1 h).1
theorem flats_len_pos {ts : List Tree} (h : ts ≠ []) : 0 < (flats ts).length := by
  cases ts with
  | nil => exact absurd rfl h
  | cons t ts => exact List.length_pos_iff.2 flats_ne
theorem AtT.pos {r : List MT} {at_ : Nat} {p : List MT} {ts : List Tree} (h : r.take at_ = p ++ flats ts) (hl : at_ < r.length) (hn : ts ≠ []) : ∃ k, at_ = k + 1 ∧ AtT r k p ts := by
  have h1 := congrArg List.length h
  rw [List.length_take, List.length_append] at h1
  have h2 := flats_len_pos hn
  obtain ⟨k, hk⟩ : ∃ k, at_ = k + 1 := ⟨at_ - 1, by omega⟩
  subst hk
  exact ⟨k, rfl, h⟩
/-- a node that takes one -/
theorem at_one {r : List MT} {at_ : Nat} {p : List MT} {m : MT} {a : Tree} (h : AtT r at_ p [.one m a]) (hl : at_ < r.length) : r[at_] = m ∧ ∃ k, at_ = k + 1 ∧ AtT r k p [a] := by
  obtain ⟨h1, h2⟩ := AtT.step (ts := []) h hl
  exact ⟨h1, AtT.pos (ts := [a]) h2 hl (by simp)⟩
/-- a node that takes two -/
theorem at_two {r : List MT} {at_ : Nat} {p : List MT} {m : MT} {a b : Tree} (h : AtT r at_ p [.two m a b]) (hl : at_ < r.length) : r[at_] = m ∧ ∃ k, at_ = k + 1 ∧ AtT r k (p ++ a.flat) [b] ∧ ∃ j, (p ++ a.flat).length = j + 1 ∧ j < k ∧ AtT r j p [a] := by
  obtain ⟨h1, h2⟩ := AtT.step (ts := []) h hl
  obtain ⟨k, rfl, h3⟩ := AtT.pos (ts := [a, b]) h2 hl (by simp)
  have h4 : AtT r k (p ++ a.flat) [b] := by
    unfold AtT at h3 ⊢
    rw [h3]
    simp [flats]
  have ha : 0 < a.flat.length := List.length_pos_iff.2 (flat_ne a)
  have hb : 0 < b.flat.length := List.length_pos_iff.2 (flat_ne b)
  have hlen := congrArg List.length (show r.take (k + 1) = (p ++ a.flat) ++ flats [b] from h4)
  rw [List.length_take, List.length_append, flats, flats, List.append_nil] at hlen
  obtain ⟨j, hj⟩ : ∃ j, (p ++ a.flat).length = j + 1 := ⟨(p ++ a.flat).length - 1, by rw [List.length_append]; omega⟩
  refine ⟨h1, k, rfl, h4, j, hj, by omega, ?_⟩
  unfold AtT
  have h5 : r.take (j + 1) = (r.take (k + 1)).take (j + 1) := by rw [List.take_take, Nat.min_eq_left (by omega)]
  rw [h5, show r.take (k + 1) = (p ++ a.flat) ++ flats [b] from h4, ← hj, List.take_left]
  simp [flats]
theorem at_leaf {r : List MT} {at_ : Nat} {p : List MT} {m : MT} (h : AtT r at_ p [.leaf m]) (hl : at_ < r.length) : r[at_] = m := (AtT.step (ts := []) h hl).1
theorem at_whole {r : List MT} {t : Tree} (h : t.flat = r) : ∃ k, r.length = k + 1 ∧ AtT r k [] [t] := by
  have hn : 0 < r.length := by rw [← h]; exact List.length_pos_iff.2 (flat_ne t)
  obtain ⟨k, hk⟩ : ∃ k, r.length = k + 1 := ⟨r.length - 1, by omega⟩
  refine ⟨k, hk, ?_⟩
  unfold AtT
  rw [List.take_of_length_le (by omega), ← h]
  simp [flats]
end Go.Proofs.YtemgbfppdopfbaaDoor
