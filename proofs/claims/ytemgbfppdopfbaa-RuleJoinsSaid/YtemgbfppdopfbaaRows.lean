/-
  No cell of these rows narrows 'for every input' (looked for: loops, veiled, ifaces, maps, wideKeys, modest, calm, conditions, laid).
  DERIVED. THE GIVEN ROWS OF THIS SEAT. 4 by the template 'for every input the law returns true; each argument reads behind the call as it read before'; 0 by the template 'total and deterministic' (their statements: YtemgbfppdopfbaaTotals.lean).
  GIVEN WITH THE SEED: the statements are not yours to turn. If you find one false, say at which input.
  Laid BY PROGRAM, IN A SANDBOX (cutbox-rows.mjs): the forced cells as the released guide's own fill.sh prints them over the translation 2e3d6a84a7e8baff… (all of the seat's roots in one cut). By AI agents, Wed Nov 11 2026. No macro, syntax, notation, axiom, sorry.
-/
import Derived.Test.YtemgbfppdopfbaaChecked
import GoSem.Claim
import GoSem.ClaimJoined
import GoSem.ClaimMapViews
import Derived.JoinedTies
import Derived.KernelRfl
namespace Go.Proofs.Ytemgbfppdopfbaa
/- THE CELL 'sum', in the pinned program and in every row, IS THE sha256 OF THE DUMP (.gsa) THAT YtemgbfppdopfbaaProg.lean LOADS. Nothing in Lean hashes anything: it is a label: what it is worth is what the hold of that sum in a sandbox is worth. -/
noncomputable def Try.pinned : Pinned := { name := "ytemgbfppdopfbaa", sum := "2e3d6a84a7e8bafff4d05af85ed773c5ae0d9e9dfe3305dcdbbdc9e0eabfd4e9", checked := Try.checked }
namespace Rows
def none {H : Type} : Left H := { results := [], args := [] }

/-- 'pointsmanlaw2.CapsBack': WHATEVER THE INPUT: true; the input reads as it did. -/
def capsBackSpec : ChangeSpec := { name := "capsBack", fn := fun _ => fun
  | [d1, d2, d3] => { results := [.lit (.bool true)], args := [d1, d2, d3] }
  | _ => none }
def capsBackRow : OpenClaim := { program := "ytemgbfppdopfbaa", sum := "2e3d6a84a7e8bafff4d05af85ed773c5ae0d9e9dfe3305dcdbbdc9e0eabfd4e9", func := "pointsman/pointsmanlaw2.CapsBack", spec := "capsBack", unfollowed := true, recurses := true, apart := false }
def CapsBackSaid : Prop := capsBackRow.holds Try.pinned (OpenSpec.ofChange capsBackSpec)

/-- ITS FALSE NEIGHBOUR: 'it returns false'. Refute it at one input. -/
def capsBackWrong : ChangeSpec := { name := "capsBack", fn := fun _ => fun
  | [d1, d2, d3] => { results := [.lit (.bool false)], args := [d1, d2, d3] }
  | _ => none }
def CapsBackWrongFalsely : Prop := capsBackRow.holds Try.pinned (OpenSpec.ofChange capsBackWrong)

/-- 'pointsmanlaw2.TailUp': WHATEVER THE INPUT: true; the input reads as it did. -/
def tailUpSpec : ChangeSpec := { name := "tailUp", fn := fun _ => fun
  | [d1, d2] => { results := [.lit (.bool true)], args := [d1, d2] }
  | _ => none }
def tailUpRow : OpenClaim := { program := "ytemgbfppdopfbaa", sum := "2e3d6a84a7e8bafff4d05af85ed773c5ae0d9e9dfe3305dcdbbdc9e0eabfd4e9", func := "pointsman/pointsmanlaw2.TailUp", spec := "tailUp", unfollowed := true, recurses := true, apart := false }
def TailUpSaid : Prop := tailUpRow.holds Try.pinned (OpenSpec.ofChange tailUpSpec)

/-- ITS FALSE NEIGHBOUR: 'it returns false'. Refute it at one input. -/
def tailUpWrong : ChangeSpec := { name := "tailUp", fn := fun _ => fun
  | [d1, d2] => { results := [.lit (.bool false)], args := [d1, d2] }
  | _ => none }
def TailUpWrongFalsely : Prop := tailUpRow.holds Try.pinned (OpenSpec.ofChange tailUpWrong)

/-- 'pointsmanlaw2.RuleJoins': WHATEVER THE INPUT: true; the input reads as it did. -/
def ruleJoinsSpec : ChangeSpec := { name := "ruleJoins", fn := fun _ => fun
  | [d1, d2, d3] => { results := [.lit (.bool true)], args := [d1, d2, d3] }
  | _ => none }
def ruleJoinsRow : OpenClaim := { program := "ytemgbfppdopfbaa", sum := "2e3d6a84a7e8bafff4d05af85ed773c5ae0d9e9dfe3305dcdbbdc9e0eabfd4e9", func := "pointsman/pointsmanlaw2.RuleJoins", spec := "ruleJoins", unfollowed := true, recurses := true, apart := false }
def RuleJoinsSaid : Prop := ruleJoinsRow.holds Try.pinned (OpenSpec.ofChange ruleJoinsSpec)

/-- ITS FALSE NEIGHBOUR: 'it returns false'. Refute it at one input. -/
def ruleJoinsWrong : ChangeSpec := { name := "ruleJoins", fn := fun _ => fun
  | [d1, d2, d3] => { results := [.lit (.bool false)], args := [d1, d2, d3] }
  | _ => none }
def RuleJoinsWrongFalsely : Prop := ruleJoinsRow.holds Try.pinned (OpenSpec.ofChange ruleJoinsWrong)

/-- 'pointsmanlaw2.RulePlain': WHATEVER THE INPUT: true; the input reads as it did. -/
def rulePlainSpec : ChangeSpec := { name := "rulePlain", fn := fun _ => fun
  | [d1, d2] => { results := [.lit (.bool true)], args := [d1, d2] }
  | _ => none }
def rulePlainRow : OpenClaim := { program := "ytemgbfppdopfbaa", sum := "2e3d6a84a7e8bafff4d05af85ed773c5ae0d9e9dfe3305dcdbbdc9e0eabfd4e9", func := "pointsman/pointsmanlaw2.RulePlain", spec := "rulePlain", unfollowed := true, recurses := true, apart := false }
def RulePlainSaid : Prop := rulePlainRow.holds Try.pinned (OpenSpec.ofChange rulePlainSpec)

/-- ITS FALSE NEIGHBOUR: 'it returns false'. Refute it at one input. -/
def rulePlainWrong : ChangeSpec := { name := "rulePlain", fn := fun _ => fun
  | [d1, d2] => { results := [.lit (.bool false)], args := [d1, d2] }
  | _ => none }
def RulePlainWrongFalsely : Prop := rulePlainRow.holds Try.pinned (OpenSpec.ofChange rulePlainWrong)

/- THE SECOND FORM. 'bulk': how many values and letters a reading holds, each counted each time it is reached (what is shared counts as often as it is met; a slice's spare places count too). A statement '..UptoSaid' is the law's where the arguments, and the package variables that the reading takes, are together of bulk at most 1048576: NARROWER than '..Said'. Prove '..Said' where nothing that the law and all that it calls make is longer than what came in: it says more and counts as full. Else prove '..UptoSaid'. A law counts once. -/
mutual
def uptoBulk {H : Type} : DataW H → Nat
  | .lit (.string bytes) => bytes.length + 1
  | .lit _ => 1
  | .nil => 1
  | .ptr d => uptoBulk d + 1
  | .slice elems spare => uptoBulkAll elems + uptoBulkAll spare + 1
  | .agg parts => uptoBulkAll parts + 1
  | .iface _ d => uptoBulk d + 1
  | .map entries => uptoBulkEntries entries + 1
  | .held _ => 1
def uptoBulkAll {H : Type} : List (DataW H) → Nat
  | [] => 0
  | d :: r => uptoBulk d + uptoBulkAll r
def uptoBulkEntries {H : Type} : List (Lit × DataW H) → Nat
  | [] => 0
  | x :: r => uptoBulkEntry x + uptoBulkEntries r
def uptoBulkEntry {H : Type} : Lit × DataW H → Nat
  | (.string bytes, d) => bytes.length + uptoBulk d + 1
  | (_, d) => uptoBulk d + 1
 end
def uptoSmall : (H : Type) → List (DataW H) → Bool := fun _ ds => decide (uptoBulkAll ds ≤ 1048576)
def OpenSpec.upto (s : _root_.Go.ChangeSpec) : _root_.Go.OpenSpec := { _root_.Go.OpenSpec.ofChange s with cond := some uptoSmall }

/-- 'pointsmanlaw2.CapsBack', WHERE WHAT IT READS IS OF BULK AT MOST 1048576: true; the input reads as it did. -/
def capsBackUptoRow : OpenClaim := { program := "ytemgbfppdopfbaa", sum := "2e3d6a84a7e8bafff4d05af85ed773c5ae0d9e9dfe3305dcdbbdc9e0eabfd4e9", func := "pointsman/pointsmanlaw2.CapsBack", spec := "capsBack", unfollowed := true, recurses := true, apart := false, narrowed := true }
def CapsBackUptoSaid : Prop := capsBackUptoRow.holds Try.pinned (OpenSpec.upto capsBackSpec)

/-- 'pointsmanlaw2.TailUp', WHERE WHAT IT READS IS OF BULK AT MOST 1048576: true; the input reads as it did. -/
def tailUpUptoRow : OpenClaim := { program := "ytemgbfppdopfbaa", sum := "2e3d6a84a7e8bafff4d05af85ed773c5ae0d9e9dfe3305dcdbbdc9e0eabfd4e9", func := "pointsman/pointsmanlaw2.TailUp", spec := "tailUp", unfollowed := true, recurses := true, apart := false, narrowed := true }
def TailUpUptoSaid : Prop := tailUpUptoRow.holds Try.pinned (OpenSpec.upto tailUpSpec)

/-- 'pointsmanlaw2.RuleJoins', WHERE WHAT IT READS IS OF BULK AT MOST 1048576: true; the input reads as it did. -/
def ruleJoinsUptoRow : OpenClaim := { program := "ytemgbfppdopfbaa", sum := "2e3d6a84a7e8bafff4d05af85ed773c5ae0d9e9dfe3305dcdbbdc9e0eabfd4e9", func := "pointsman/pointsmanlaw2.RuleJoins", spec := "ruleJoins", unfollowed := true, recurses := true, apart := false, narrowed := true }
def RuleJoinsUptoSaid : Prop := ruleJoinsUptoRow.holds Try.pinned (OpenSpec.upto ruleJoinsSpec)

/-- 'pointsmanlaw2.RulePlain', WHERE WHAT IT READS IS OF BULK AT MOST 1048576: true; the input reads as it did. -/
def rulePlainUptoRow : OpenClaim := { program := "ytemgbfppdopfbaa", sum := "2e3d6a84a7e8bafff4d05af85ed773c5ae0d9e9dfe3305dcdbbdc9e0eabfd4e9", func := "pointsman/pointsmanlaw2.RulePlain", spec := "rulePlain", unfollowed := true, recurses := true, apart := false, narrowed := true }
def RulePlainUptoSaid : Prop := rulePlainUptoRow.holds Try.pinned (OpenSpec.upto rulePlainSpec)

end Rows
end Go.Proofs.Ytemgbfppdopfbaa
