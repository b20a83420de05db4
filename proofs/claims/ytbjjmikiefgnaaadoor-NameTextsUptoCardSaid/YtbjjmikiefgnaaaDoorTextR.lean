/- What Read hands back is the document's name of a text. Plain. -/
import Derived.Test.YtbjjmikiefgnaaaDoorReadN
import Derived.Test.YtbjjmikiefgnaaaDoorTextQ
namespace Go.Proofs.YtbjjmikiefgnaaaDoor
set_option linter.unusedVariables false
set_option linter.unusedSimpArgs false

theorem mk_nam (l : List ByteArray) : mkL (namL l) = l := by
  unfold mkL namL
  rw [List.map_map]
  have : ((fun l : List UInt8 => (⟨l.toArray⟩ : ByteArray)) ∘ fun s : ByteArray => s.data.toList) = id := by
    funext s
    cases s
    rfl
  rw [this, List.map_id]
theorem nam_mk (n : List (List UInt8)) : namL (mkL n) = n := by
  unfold mkL namL
  rw [List.map_map]
  have : ((fun s : ByteArray => s.data.toList) ∘ fun l : List UInt8 => (⟨l.toArray⟩ : ByteArray)) = id := by
    funext s
    rfl
  rw [this, List.map_id]
theorem nam_ne {l : List ByteArray} (h : nameErr l = 0) : ∀ x ∈ namL l, x ≠ [] := fun x hx => by
  obtain ⟨s, hs, rfl⟩ := List.mem_map.1 hx
  have := ((err_small h).1 s hs).1
  intro e
  have h3 : s.data.toList.length = s.size := by rw [Array.length_toList]; rfl
  rw [e] at h3
  simp at h3
  omega
theorem readOk_text {l : List ByteArray} (h : nameErr l = 0) : readOk (textS l) = some l := by
  have h2 : readT (textS l).data.toList = some (namL l, true) := read_text (nam_ne h)
  unfold readOk
  rw [h2]
  simp only
  rw [mk_nam, if_pos ⟨h, rfl⟩]
theorem readOk_back {s : ByteArray} {l : List ByteArray} (h : readOk s = some l) : nameErr l = 0 ∧ textS l = s := by
  unfold readOk at h
  split at h
  · split at h
    · rename_i hh
      cases h
      exact hh
    · cases h
  · cases h
/-- the document's name, of an outcome -/
def nameO : Option (List (List UInt8) × List UInt8) → Option (List ByteArray)
  | some (n, []) => if n ≠ [] ∧ nameErr (mkL n) = 0 then some (mkL n) else none
  | _ => none
theorem of_read {s : ByteArray} (hs : s.data.toList ≠ [46]) {r : Option (List (List UInt8) × List UInt8)} (h : OfT s.data.toList [] [] r) : readOk s = nameO r := by
  have fwd : ∀ m, readOk s = some m → nameO r = some m := by
    intro m hm
    obtain ⟨h0, ht⟩ := readOk_back hm
    have hsl : s.data.toList = textT (namL m) := by rw [← ht]; rfl
    have hne : namL m ≠ [] := fun e => hs (by rw [hsl, e]; rfl)
    have hsl2 : s.data.toList = (namL m).flatMap labelT := by rw [hsl]; unfold textT; rw [if_neg hne]
    have k := ofT_labels (namL m) []
    rw [← hsl2] at k
    rw [ofT_one h k]
    simp only [nameO, List.nil_append]
    rw [mk_nam, if_pos ⟨hne, h0⟩]
  have bwd : ∀ m, nameO r = some m → readOk s = some m := by
    intro m hm
    unfold nameO at hm
    split at hm
    · rename_i n
      split at hm
      · rename_i hh
        cases hm
        have ht := ofT_some h n [] rfl
        simp only [List.flatMap_nil, List.append_nil, List.nil_append] at ht
        have hts : textS (mkL n) = s := by
          unfold textS
          rw [nam_mk]
          unfold textT
          rw [if_neg hh.1, ht]
        rw [← hts]
        exact readOk_text hh.2
      · cases hm
    · cases hm
  cases h1 : readOk s with
  | some m => exact (fwd m h1).symm
  | none =>
    cases h2 : nameO r with
    | none => rfl
    | some m => rw [bwd m h2] at h1; cases h1
theorem dot_read : readOk ⟨#[46]⟩ = some [] := readOk_text (l := []) rfl
end Go.Proofs.YtbjjmikiefgnaaaDoor
