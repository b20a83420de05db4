/- Messages as they are sent, in plain Lean: questions, records, one behind the other. No function of the program. -/
import Derived.Test.YtkdfiedemhjjjaaRrP
namespace Go.Proofs.Ytkdfiedemhjjjaa
set_option linter.unusedVariables false

abbrev QT := List ByteArray × Int × Int × Unit
def qErr (q : QT) : Int := if nameErr q.1 = 0 then (if 0 ≤ q.2.1 ∧ q.2.1 ≤ 65535 ∧ 0 ≤ q.2.2.1 ∧ q.2.2.1 ≤ 65535 then 0 else 6) else nameErr q.1
def qB (b : List UInt8) (ss : List Int) (q : QT) : List UInt8 := b ++ packT b ss q.1 ++ (two2 q.2.1 ++ two2 q.2.2.1)
def stS (b : List UInt8) (ss : List Int) (l : List ByteArray) : List Int := ss ++ packN b ss l b.length
theorem qErr_zero {q : QT} (h : qErr q = 0) : nameErr q.1 = 0 ∧ (0 ≤ q.2.1 ∧ q.2.1 ≤ 65535) ∧ (0 ≤ q.2.2.1 ∧ q.2.2.1 ≤ 65535) := by
  unfold qErr at h
  by_cases h0 : nameErr q.1 = 0
  · rw [if_pos h0] at h
    split at h
    · rename_i h1; exact ⟨h0, ⟨h1.1, h1.2.1⟩, h1.2.2.1, h1.2.2.2⟩
    · cases h
  · rw [if_neg h0] at h; exact absurd h h0
/-- questions written behind bytes: what is wrong, the bytes, the starts -/
def wrQ : List QT → List UInt8 → List Int → Int × List UInt8 × List Int
  | [], b, ss => (0, b, ss)
  | q :: qs, b, ss => if qErr q = 0 then wrQ qs (qB b ss q) (stS b ss q.1) else (qErr q, [], [])
def wrR : List RecT → List UInt8 → List Int → Int × List UInt8 × List Int
  | [], b, ss => (0, b, ss)
  | r :: rs, b, ss => if recErr r = 0 then wrR rs (recB b ss r) (stS b ss r.1) else (recErr r, [], [])
end Go.Proofs.Ytkdfiedemhjjjaa
