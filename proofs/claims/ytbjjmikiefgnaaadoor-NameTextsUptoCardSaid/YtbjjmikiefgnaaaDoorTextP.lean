/- A name as a text, and the name of a text, plain. No function of the program. -/
import Derived.Test.YtbjjmikiefgnaaaDoorBase
namespace Go.Proofs.YtbjjmikiefgnaaaDoor
set_option linter.unusedVariables false
set_option linter.unusedSimpArgs false

/-- a byte as it stands in a text -/
def escB (b : UInt8) : List UInt8 :=
  if b.toNat = 46 ∨ b.toNat = 92 then [92, b] else if b.toNat < 33 ∨ 126 < b.toNat then [92, UInt8.ofNat (48 + b.toNat / 100), UInt8.ofNat (48 + b.toNat / 10 % 10), UInt8.ofNat (48 + b.toNat % 10)] else [b]
def labelT (l : List UInt8) : List UInt8 := l.flatMap escB ++ [46]
def textT (n : List (List UInt8)) : List UInt8 := if n = [] then [46] else n.flatMap labelT

/-- three digits, taken as a byte -/
def threeI (c d e : UInt8) : Int := 100 * ((c.toNat : Int) - 48) + 10 * ((d.toNat : Int) - 48) + (e.toNat : Int) - 48
def three (c d e : UInt8) : UInt8 := UInt8.ofNat (threeI c d e % 256).toNat
theorem three_nat (c d e : UInt8) : ((three c d e).toNat : Int) = threeI c d e % 256 := by
  unfold three
  rw [UInt8.toNat_ofNat']
  omega
def digitB (c : UInt8) : Bool := decide (48 ≤ c.toNat ∧ c.toNat ≤ 57)
/-- what read makes of the bytes from a place on: the labels, whether it is one; none: it stopped -/
def rdT (s lab : List UInt8) (ns : List (List UInt8)) : Option (List (List UInt8) × Bool) :=
  match s with
  | [] => some (ns, lab.isEmpty && !ns.isEmpty)
  | x :: r =>
    if x.toNat = 46 then rdT r [] (ns ++ [lab])
    else if x.toNat ≠ 92 then rdT r (lab ++ [x]) ns
    else match r with
      | [] => none
      | c :: r1 => if digitB c = false then rdT r1 (lab ++ [c]) ns else match r1 with
        | d :: e :: r2 => rdT r2 (lab ++ [three c d e]) ns
        | _ => none
termination_by s.length
decreasing_by all_goals (simp_wf; try omega)
theorem rdT_nil (lab : List UInt8) (ns : List (List UInt8)) : rdT [] lab ns = some (ns, lab.isEmpty && !ns.isEmpty) := by rw [rdT]
theorem rdT_dot {x : UInt8} (h : x.toNat = 46) (s lab : List UInt8) (ns : List (List UInt8)) : rdT (x :: s) lab ns = rdT s [] (ns ++ [lab]) := by
  rw [rdT.eq_def]; simp only [if_pos h]
theorem rdT_plain {x : UInt8} (h : x.toNat ≠ 46) (h2 : x.toNat ≠ 92) (s lab : List UInt8) (ns : List (List UInt8)) : rdT (x :: s) lab ns = rdT s (lab ++ [x]) ns := by
  rw [rdT.eq_def]; simp only [if_neg h, if_pos h2]
theorem rdT_esc {x c : UInt8} (h : x.toNat = 92) (h2 : digitB c = false) (s lab : List UInt8) (ns : List (List UInt8)) : rdT (x :: c :: s) lab ns = rdT s (lab ++ [c]) ns := by
  rw [rdT.eq_def]; simp only [if_neg (show ¬ x.toNat = 46 by omega), if_neg (show ¬ x.toNat ≠ 92 by omega), if_pos h2]
theorem rdT_num {x c : UInt8} (h : x.toNat = 92) (h2 : digitB c = true) (d e : UInt8) (s lab : List UInt8) (ns : List (List UInt8)) : rdT (x :: c :: d :: e :: s) lab ns = rdT s (lab ++ [three c d e]) ns := by
  rw [rdT.eq_def]; simp only [if_neg (show ¬ x.toNat = 46 by omega), if_neg (show ¬ x.toNat ≠ 92 by omega), if_neg (show ¬ digitB c = false by rw [h2]; simp)]
theorem rdT_stop1 {x : UInt8} (h : x.toNat = 92) (lab : List UInt8) (ns : List (List UInt8)) : rdT [x] lab ns = none := by
  rw [rdT.eq_def]; simp only [if_neg (show ¬ x.toNat = 46 by omega), if_neg (show ¬ x.toNat ≠ 92 by omega)]
theorem rdT_stop2 {x c : UInt8} (h : x.toNat = 92) (h2 : digitB c = true) (lab : List UInt8) (ns : List (List UInt8)) : rdT [x, c] lab ns = none := by
  rw [rdT.eq_def]; simp only [if_neg (show ¬ x.toNat = 46 by omega), if_neg (show ¬ x.toNat ≠ 92 by omega), if_neg (show ¬ digitB c = false by rw [h2]; simp)]
theorem rdT_stop3 {x c : UInt8} (h : x.toNat = 92) (h2 : digitB c = true) (d : UInt8) (lab : List UInt8) (ns : List (List UInt8)) : rdT [x, c, d] lab ns = none := by
  rw [rdT.eq_def]; simp only [if_neg (show ¬ x.toNat = 46 by omega), if_neg (show ¬ x.toNat ≠ 92 by omega), if_neg (show ¬ digitB c = false by rw [h2]; simp)]

theorem rdT_escB (b : UInt8) (s lab : List UInt8) (ns : List (List UInt8)) : rdT (escB b ++ s) lab ns = rdT s (lab ++ [b]) ns := by
  unfold escB
  have hb := b.toNat_lt
  by_cases h1 : b.toNat = 46 ∨ b.toNat = 92
  · rw [if_pos h1]
    exact rdT_esc (by rfl) (decide_eq_false (by omega)) _ _ _
  · rw [if_neg h1]
    by_cases h2 : b.toNat < 33 ∨ 126 < b.toNat
    · rw [if_pos h2]
      have e1 : (UInt8.ofNat (48 + b.toNat / 100)).toNat = 48 + b.toNat / 100 := by rw [UInt8.toNat_ofNat']; omega
      have e2 : (UInt8.ofNat (48 + b.toNat / 10 % 10)).toNat = 48 + b.toNat / 10 % 10 := by rw [UInt8.toNat_ofNat']; omega
      have e3 : (UInt8.ofNat (48 + b.toNat % 10)).toNat = 48 + b.toNat % 10 := by rw [UInt8.toNat_ofNat']; omega
      have hd : digitB (UInt8.ofNat (48 + b.toNat / 100)) = true := decide_eq_true (by rw [e1]; omega)
      have ht : three (UInt8.ofNat (48 + b.toNat / 100)) (UInt8.ofNat (48 + b.toNat / 10 % 10)) (UInt8.ofNat (48 + b.toNat % 10)) = b := by
        unfold three threeI
        rw [e1, e2, e3]
        have : (100 * (((48 + b.toNat / 100 : Nat) : Int) - 48) + 10 * (((48 + b.toNat / 10 % 10 : Nat) : Int) - 48) + ((48 + b.toNat % 10 : Nat) : Int) - 48) = (b.toNat : Int) := by omega
        rw [this, Int.emod_eq_of_lt (by omega) (by omega), Int.toNat_natCast]
        simp
      have := rdT_num (x := 92) (by rfl) hd (UInt8.ofNat (48 + b.toNat / 10 % 10)) (UInt8.ofNat (48 + b.toNat % 10)) s lab ns
      rw [ht] at this
      exact this
    · rw [if_neg h2]
      exact rdT_plain (by omega) (by omega) _ _ _
theorem rdT_label (l s lab : List UInt8) (ns : List (List UInt8)) : rdT (labelT l ++ s) lab ns = rdT s [] (ns ++ [lab ++ l]) := by
  unfold labelT
  induction l generalizing lab with
  | nil =>
    simp only [List.flatMap_nil, List.nil_append, List.append_nil]
    exact rdT_dot (by rfl) _ _ _
  | cons b l ih =>
    rw [List.flatMap_cons, List.append_assoc, List.append_assoc, rdT_escB]
    have := ih (lab ++ [b])
    rw [List.append_assoc] at this
    rw [this]
    simp
theorem rdT_labels (n : List (List UInt8)) (ns : List (List UInt8)) : rdT (n.flatMap labelT) [] ns = some (ns ++ n, !(ns ++ n).isEmpty) := by
  induction n generalizing ns with
  | nil => simp [rdT_nil]
  | cons l n ih =>
    rw [List.flatMap_cons, rdT_label, ih]
    simp
/-- what read makes of a text -/
def readT (s : List UInt8) : Option (List (List UInt8) × Bool) := if s = [46] then some ([], true) else rdT s [] []
theorem escB_ne (b : UInt8) : escB b ≠ [] := by
  unfold escB
  split
  · simp
  · split <;> simp
theorem read_text {n : List (List UInt8)} (h : ∀ l ∈ n, l ≠ []) : readT (textT n) = some (n, true) := by
  unfold readT textT
  by_cases hn : n = []
  · subst hn; rfl
  · rw [if_neg hn, if_neg, rdT_labels]
    · cases n with
      | nil => exact absurd rfl hn
      | cons l n => simp
    · cases n with
      | nil => exact absurd rfl hn
      | cons l n =>
        intro e
        have hl := h l (by simp)
        cases l with
        | nil => exact hl rfl
        | cons b l =>
          have := congrArg List.length e
          have h1 : 1 ≤ (escB b).length := by
            cases hh : escB b with
            | nil => exact absurd hh (escB_ne b)
            | cons _ _ => simp
          simp only [List.flatMap_cons, labelT, List.length_append, List.length_cons, List.length_nil] at this
          omega
/-- how long a text is -/
theorem escB_len (b : UInt8) : (escB b).length ≤ 4 := by
  unfold escB
  split
  · simp
  · split <;> simp
end Go.Proofs.YtbjjmikiefgnaaaDoor
